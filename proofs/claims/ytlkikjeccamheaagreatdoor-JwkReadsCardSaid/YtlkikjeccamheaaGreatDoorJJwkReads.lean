/-
  PROVED: 'brevetlaw11.JwkReads': a text is read as just the document's bundle, or refused. The listed variables are tied to the program's text by the card.
-/
import Derived.Deep.CutBlock
import Derived.Laws.StructEq
import Derived.Deep.Slices
import Derived.Test.YtlkikjeccamheaaGreatDoorCards
import Derived.Test.YtlkikjeccamheaaGreatDoorTie
import Derived.SevenTiedAt
import Derived.Lay
import Derived.ProofKit
import Derived.OpenShut
import Derived.Test.YtlkikjeccamheaaGreatDoorJ5
import Derived.Test.YtlkikjeccamheaaGreatDoorJ3
import Derived.Test.YtlkikjeccamheaaGreatDoorJ4
import Derived.Test.YtlkikjeccamheaaGreatDoorJ1
namespace Go.Proofs.YtlkikjeccamheaaGreatDoor.Js
set_option linter.unusedSimpArgs false
set_option linter.unusedVariables false
set_option maxRecDepth 100000
set_option maxHeartbeats 4000000
open Go.RowKit
theorem keysT_app:∀ (l r:List (Bs × Bs)) (f:Bool),keysT (l++r) f=keysT l f++keysT r (f && l.isEmpty)
 | [],r,f=>by simp [keysT]
 | x :: l,r,f=>by
  have ih:=keysT_app l r false;simp only [List.cons_append,keysT,ih,List.append_assoc,Bool.false_and,List.isEmpty_cons,Bool.and_false]
theorem keysT_snoc (l:List (Bs × Bs)) (x:Bs × Bs):keysT (l++[x]) true=(keysT l true++(if l.isEmpty then [] else [44]))++keyT x:=by
 rw [keysT_app,Bool.true_and]
 cases l.isEmpty <;> simp [keysT]
set_option maxHeartbeats 8000000 in
theorem rwrite11_any (D:Bs) (num:Int) (ks:List (Bs × Bs)) (A:Option Addr) (c B:Nat) (w:World) (hr:Rd w B A (rowsV kCell ks)) (hB:B≤w.heap.size) (hp:PlainB ⟨D,num,ks⟩) (hx:∀ k ∈ ks,k.2.length=32) :
  Calls Tryz.prog 11 #[.agg (bC D num A ks.length c)] w fun e w'=>e=.returned (.string (bs (bundleT ⟨D,num,ks⟩)))∧Below w.heap.size w w':=by
 have hks8:ks.length≤8:=hp.kn;have hD16:D.length≤16:=hp.dlen;have hn0:0≤num:=hp.n0;have hn1:num≤1099511627776:=hp.n1;obtain ⟨R,hR⟩:∃ R,R=bs (bundleT ⟨D,num,ks⟩):=⟨_,rfl⟩;rw [← hR];have HR0:=zY hR;obtain ⟨n,hn⟩:=eX (ks.length);rw [← hn] at hks8 ⊢;have HN:=zY hn;obtain ⟨W0,hW0⟩:=eX (w.alloc (.cells (bC D num A n c) 24));have hb0:Below w.heap.size w W0:=by rw [hW0]; exact (Below.refl _ w).alloc (Nat.le_refl _) _
 have HB0:=zY hb0;have HK:=zY (show Blk W0 w.heap.size 24 (bC D num A n c) by rw [hW0]; exact Blk.new _ _ _);have HW0:=zY hW0;have HRD:=zY (hr.below (hb0.mono hB));have HBB:=zY (Nat.le_trans hB hb0.size);have HPK:=zY hp.kid;have HX:=zY hx;have HDG:=zY (rdigits_any num (by omega) (by omega))
 have HKL:=zY (fun (i:Nat)=>show (keysT (ks.take i) true).length≤1040 by
  have h:=qdP (ks.take i) true (fun k hk=>⟨(hp.kid k (List.mem_of_mem_take hk)).2,hp.x k (List.mem_of_mem_take hk)⟩);have h2:(ks.take i).length≤8:=by rw [List.length_take]; omega
  omega)
 have hDs:(bs D).size≤16:=by rw [qay]; exact hD16
 have hIs:(bs (intB num)).size≤17:=by rw [qay]; exact intB_len num
 have HUS:=zY (Below.refl W0.heap.size W0);clear hW0 hb0 hr hB hp hx hR hn hD16;go_enter Tryz.func11,Tryz.ntmps11
 go_upto_region 1 with (fail)
 rw [show w.alloc (.cells (bC D num A n c) 24)=W0 from HW0.out.symm];generalize Value.agg (bC D num A n c)=AV;go_wp2_with fail
 go_loopw [3,4] (fun x y wr=>∃ i:Nat,i≤n∧y=.int .i64 (i:Int)∧x=.string (bs (keysT (ks.take i) true))∧Below W0.heap.size W0 wr) (fun _ y _=>n - (intOf y).toNat)
 case atStart=>exact ⟨0,Nat.zero_le _,rfl,rfl,HUS.out⟩
 case round =>
  obtain ⟨i,hi,rfl,rfl,hbw⟩:=hrel;have HBW:=zY hbw;have HBX:=zY (HK.out.below hbw HK.out.lt);have a2:wr.cell? ⟨w.heap.size,2,none⟩=some (.slice A n c):=HBX.out.cell 2;obtain ⟨S,hS⟩:=eX (keysT (ks.take i) true);have hSl:(bs S).size≤1040:=by rw [qay,hS]; exact HKL.out i
  rw [← hS];have HS:=zY hS;clear hbw hS
  by_cases hlt:i<n
  ·have hil:i<ks.length:=by rw [← HN.out]; exact hlt
   have hlt':(i:Int)<(n:Int):=by omega
   obtain ⟨ad,hA,hadb,hcell⟩:=qaO (f:=kCell) (m:=2) (fun _=>rfl) (by decide) (HRD.out.below (HBW.out.mono HBB.out)) hil;subst hA;obtain ⟨X,hX⟩:=eX (ks[i]);rw [← hX] at hcell;have c0:wr.cell? (ad.add (i*2))=some (.string (bs X.1)):=hcell 0 _ rfl;have c1':wr.cell? ⟨(ad.add (i*2)).block,(ad.add (i*2)).off+1,none⟩=some (.string (bs X.2)):=hcell 1 _ rfl;have C0:=zY c0;have C1':=zY c1';have HPB:=zY (show (ad.add (i*2)).block<wr.heap.size from World.block_lt_of_cell? _ _ c0);have hX1:(bs X.1).size≤8:=by rw [qay,hX]; exact (HPK.out _ (List.getElem_mem hil)).2
   have HX2:=zY (show X.2.length=32 by rw [hX]; exact HX.out _ (List.getElem_mem hil))
   have hE:(bs (enc X.2)).size≤65:=by
    rw [qay];have h:=qdi X.2 0 0 (by omega);have h2:=HX2.out;unfold enc;omega
   obtain ⟨S2,hS2⟩:=eX (S++(if (ks.take i).isEmpty then ([]:Bs) else [44]));have HST:=zY (show keysT (ks.take (i+1)) true=S2++keyT X by rw [List.take_succ_eq_append_getElem hil,keysT_snoc,hS2,HS.out,hX]);have HS2:=zY hS2
   have HEM:=zY (show (ks.take i).isEmpty=decide (i=0) by
    cases i with
    | zero=>rfl
    | succ k=>cases ks with
     | nil=>simp at hil
     | cons a r=>rfl)
   have hS2l:(bs S2).size≤1041:=by
    rw [qay] at hSl ⊢;rw [hS2,List.length_append]
    split <;> simp <;> omega
   have HLT:=zY hlt;clear c0 c1' hX hcell hadb hil hlt hS2
   go_upto_if 13 with (fail)
   go_cut [3] (fun x wx=>x=.string (bs S2)∧wx=wr)
   case first =>
    cases i with
    | zero =>
     have HE:=zY (show S2=S by rw [HS2.out,HEM.out]; simp);have h0:¬ (0:Int)<((0:Nat):Int):=by omega
     go_wp2_with fail
     go_meet
     exact ⟨by rw [HE.out],rfl⟩
    | succ k =>
     have HE:=zY (show bs S2=bs S++bs [44] by rw [qbA,HS2.out,HEM.out]; simp);have h0:(0:Int)<((k+1:Nat):Int):=by omega
     have hz:¬ 9223372036854775807<(bs S).size+1:=by omega
     go_wp2_with fail
     go_meet
     exact ⟨by rw [HE.out]; rfl,rfl⟩
   case rest =>
   obtain ⟨rfl,rfl⟩:=hcut;have HZ1:=zY (show ¬ 9223372036854775807<(bs S2).size+24 by omega);have HZ2:=zY (show ¬ 9223372036854775807<(bs S2).size+24+(bs X.1).size by omega);have HZ3:=zY (show ¬ 9223372036854775807<(bs S2).size+24+(bs X.1).size+19 by omega);have HZ4:=zY (show ¬ 9223372036854775807<(bs S2).size+24+(bs X.1).size+19+(bs (enc X.2)).size by omega);have HZ5:=zY (show ¬ 9223372036854775807<(bs S2).size+24+(bs X.1).size+19+(bs (enc X.2)).size+2 by omega)
   have HSE:=zY (show bs S2++⟨#[123,34,99,114,118,34,58,34,69,100,50,53,53,49,57,34,44,34,107,105,100,34,58,34]⟩++bs X.1++⟨#[34,44,34,107,116,121,34,58,34,79,75,80,34,44,34,120,34,58,34]⟩++bs (enc X.2)++⟨#[34,125]⟩=bs (keysT (ks.take (i+1)) true) by
    rw [HST.out,keyT];rw [← qbA,← qbA,← qbA,← qbA,← qbA];simp only [ByteArray.append_assoc]
    rfl)
   have HEN:=zY (fun (u:World) (A:Option Addr) (c:Nat) (h:Rd u u.heap.size A (bytesV X.2))=>show Calls Tryz.prog 25 #[.slice A 32 c] u fun e w'=>e=.returned (.string (bs (enc X.2)))∧Below u.heap.size u w' by
    have h2:=qdy X.2 (by have:=HX2.out; omega) A c u h;rw [HX2.out] at h2;exact h2)
   have HS32:=zY (show (bs X.2).size=32 by rw [qay,HX2.out]);have hus:=Tryz.underlying9;have hub8:=Tryz.underlying40;have hu8:=Tryz.underlying5;have HC0:Below wc.heap.size wc wc.drew:=(Below.refl _ _).drew;have hnn:(n:Int)≤8:=by omega
   clear hX1 hE hS2l hSl a2
   go_upto_region 7 with (fail)
   refine qas (fun u=>Below wc.heap.size wc u) (fun | false=>(fun _=>True) | true=>(fun _=>True)) (fun | false,_=>false | true,_=>false)
    [fun z _=>z 0=.string (bs S2),
     fun z _=>z 1=.string (bs S2++⟨#[123,34,99,114,118,34,58,34,69,100,50,53,53,49,57,34,44,34,107,105,100,34,58,34]⟩),
     fun z _=>z 2=.pointer (some ⟨w.heap.size,2,none⟩),
     fun z _=>z 3=.slice (some ad) n c,
     fun z _=>z 4=.int .i64 (i:Int),
     fun z _=>z 5=.pointer (some (ad.add (i*2))),
     fun z _=>z 6=.pointer (some (ad.add (i*2))),
     fun z _=>z 7=.string (bs X.1),
     fun z _=>z 8=.string (bs S2++⟨#[123,34,99,114,118,34,58,34,69,100,50,53,53,49,57,34,44,34,107,105,100,34,58,34]⟩++bs X.1),
     fun z _=>z 9=.string (bs S2++⟨#[123,34,99,114,118,34,58,34,69,100,50,53,53,49,57,34,44,34,107,105,100,34,58,34]⟩++bs X.1++⟨#[34,44,34,107,116,121,34,58,34,79,75,80,34,44,34,120,34,58,34]⟩),
     fun z _=>z 10=.pointer (some ⟨w.heap.size,2,none⟩),
     fun z _=>z 11=.slice (some ad) n c,
     fun z _=>z 12=.int .i64 (i:Int),
     fun z _=>z 13=.pointer (some (ad.add (i*2))),
     fun z _=>z 14=.pointer (some ⟨(ad.add (i*2)).block,(ad.add (i*2)).off+1,none⟩),
     fun z _=>z 15=.string (bs X.2),
     fun z u=>(fun v u=>BytFrom u 0 32 X.2 v) (z 16) u,
     fun z _=>z 17=.string (bs (enc X.2)),
     fun z _=>z 18=.string (bs S2++⟨#[123,34,99,114,118,34,58,34,69,100,50,53,53,49,57,34,44,34,107,105,100,34,58,34]⟩++bs X.1++⟨#[34,44,34,107,116,121,34,58,34,79,75,80,34,44,34,120,34,58,34]⟩++bs (enc X.2)),
     fun z _=>z 19=.string (bs S2++⟨#[123,34,99,114,118,34,58,34,69,100,50,53,53,49,57,34,44,34,107,105,100,34,58,34]⟩++bs X.1++⟨#[34,44,34,107,116,121,34,58,34,79,75,80,34,44,34,120,34,58,34]⟩++bs (enc X.2)++⟨#[34,125]⟩),
     fun z _=>z 20=.string (bs S2++⟨#[123,34,99,114,118,34,58,34,69,100,50,53,53,49,57,34,44,34,107,105,100,34,58,34]⟩++bs X.1++⟨#[34,44,34,107,116,121,34,58,34,79,75,80,34,44,34,120,34,58,34]⟩++bs (enc X.2)++⟨#[34,125]⟩)]
    [Eq,Eq,Eq,Eq,Eq,Eq,Eq,Eq,Eq,Eq,Eq,Eq,Eq,Eq,Eq,Eq,fun u u'=>Below u.heap.size u u',fun u u'=>Below u.heap.size u u',Eq,Eq,Eq]
    (fun _ _=>false) [(0,some 16),(1,some 17),(2,some 18),(3,some 19),(4,some 20),(5,some 21),(6,some 22),(7,some 23),(8,some 24),(9,some 25),(10,some 26),(11,some 27),(12,some 28),(13,some 29),(14,some 30),(15,some 31),(16,some 32),(17,some 33),(18,some 34),(19,some 35),(20,some 3)] (by kernel_rfl) (by kernel_rfl) rfl (fun _=>rfl) ?_ ?_ ?_ ?_ ?_ ?_
   ·exact HC0
   ·intro m; cases m; exact trivial; exact trivial
   ·intro m; cases m
    ·refine ⟨?_,?_,?_,?_,?_,?_,?_,?_,?_,?_,?_,?_,?_,?_,?_,?_,?_,?_,?_,?_,?_,trivial⟩ <;> first | exact .inr fun _ _ h h0=>h▸h0 | exact .inr fun _ _ _ h=>h
    ·refine ⟨?_,?_,?_,?_,?_,?_,?_,?_,?_,?_,?_,?_,?_,?_,?_,?_,?_,?_,?_,?_,?_,trivial⟩ <;> first | exact .inr fun _ _ h h0=>h▸h0 | exact .inr fun _ _ _ h=>h
   ·refine ⟨⟨.inl rfl,?_,?_,?_,?_,?_,?_,?_,?_,?_,?_,?_,?_,?_,?_,?_,?_,?_,?_,?_,?_,trivial⟩,⟨?_,.inl rfl,?_,?_,?_,?_,?_,?_,?_,?_,?_,?_,?_,?_,?_,?_,?_,?_,?_,?_,?_,trivial⟩,⟨?_,?_,.inl rfl,?_,?_,?_,?_,?_,?_,?_,?_,?_,?_,?_,?_,?_,?_,?_,?_,?_,?_,trivial⟩,⟨?_,?_,?_,.inl rfl,?_,?_,?_,?_,?_,?_,?_,?_,?_,?_,?_,?_,?_,?_,?_,?_,?_,trivial⟩,⟨?_,?_,?_,?_,.inl rfl,?_,?_,?_,?_,?_,?_,?_,?_,?_,?_,?_,?_,?_,?_,?_,?_,trivial⟩,⟨?_,?_,?_,?_,?_,.inl rfl,?_,?_,?_,?_,?_,?_,?_,?_,?_,?_,?_,?_,?_,?_,?_,trivial⟩,⟨?_,?_,?_,?_,?_,?_,.inl rfl,?_,?_,?_,?_,?_,?_,?_,?_,?_,?_,?_,?_,?_,?_,trivial⟩,⟨?_,?_,?_,?_,?_,?_,?_,.inl rfl,?_,?_,?_,?_,?_,?_,?_,?_,?_,?_,?_,?_,?_,trivial⟩,⟨?_,?_,?_,?_,?_,?_,?_,?_,.inl rfl,?_,?_,?_,?_,?_,?_,?_,?_,?_,?_,?_,?_,trivial⟩,⟨?_,?_,?_,?_,?_,?_,?_,?_,?_,.inl rfl,?_,?_,?_,?_,?_,?_,?_,?_,?_,?_,?_,trivial⟩,⟨?_,?_,?_,?_,?_,?_,?_,?_,?_,?_,.inl rfl,?_,?_,?_,?_,?_,?_,?_,?_,?_,?_,trivial⟩,⟨?_,?_,?_,?_,?_,?_,?_,?_,?_,?_,?_,.inl rfl,?_,?_,?_,?_,?_,?_,?_,?_,?_,trivial⟩,⟨?_,?_,?_,?_,?_,?_,?_,?_,?_,?_,?_,?_,.inl rfl,?_,?_,?_,?_,?_,?_,?_,?_,trivial⟩,⟨?_,?_,?_,?_,?_,?_,?_,?_,?_,?_,?_,?_,?_,.inl rfl,?_,?_,?_,?_,?_,?_,?_,trivial⟩,⟨?_,?_,?_,?_,?_,?_,?_,?_,?_,?_,?_,?_,?_,?_,.inl rfl,?_,?_,?_,?_,?_,?_,trivial⟩,⟨?_,?_,?_,?_,?_,?_,?_,?_,?_,?_,?_,?_,?_,?_,?_,.inl rfl,?_,?_,?_,?_,?_,trivial⟩,⟨?_,?_,?_,?_,?_,?_,?_,?_,?_,?_,?_,?_,?_,?_,?_,?_,.inl rfl,?_,?_,?_,?_,trivial⟩,⟨?_,?_,?_,?_,?_,?_,?_,?_,?_,?_,?_,?_,?_,?_,?_,?_,.inr (.inr (.inr (fun _ _ _ _ h h0=>h0.step h))),.inl rfl,?_,?_,?_,trivial⟩,⟨?_,?_,?_,?_,?_,?_,?_,?_,?_,?_,?_,?_,?_,?_,?_,?_,?_,?_,.inl rfl,?_,?_,trivial⟩,⟨?_,?_,?_,?_,?_,?_,?_,?_,?_,?_,?_,?_,?_,?_,?_,?_,?_,?_,?_,.inl rfl,?_,trivial⟩,⟨?_,?_,?_,?_,?_,?_,?_,?_,?_,?_,?_,?_,?_,?_,?_,?_,?_,?_,?_,?_,.inl rfl,trivial⟩,trivial⟩ <;> first | exact .inr (.inr (.inl rfl)) | exact .inr (.inr (.inr fun _ _ _ _ _ h=>h)) | exact .inr (.inr (.inr fun _ _ _ _ h h0=>by cases h; exact h0))
   ·refine ⟨?_,?_,?_,?_,?_,?_,?_,?_,?_,?_,?_,?_,?_,?_,?_,?_,?_,?_,?_,?_,?_,trivial⟩
    ·refine qab [] (fun _=>rfl) rfl ?_;intro w1 vals hC1 hi0 hf E hE;clear hi0;clear hf;simp only [sP] at hE ⊢;go_wp2;exact .mk (hE _ _ rfl hC1 rfl)
    ·refine qab [(0,some 16)] (fun _=>rfl) rfl ?_;intro w1 vals hC1 hi0 hf E hE;clear hi0;have f0:vals 0=_:=hf 0 rfl
     try dsimp only at f0
     clear hf;simp only [sP,f0] at hE ⊢;clear f0;have hz:=HZ1.out;go_wp2;exact .mk (hE _ _ rfl hC1 rfl)
    ·refine qab [] (fun _=>rfl) rfl ?_;intro w1 vals hC1 hi0 hf E hE;clear hi0;clear hf;simp only [sP] at hE ⊢;go_wp2;exact .mk (hE _ _ rfl hC1 rfl)
    ·refine qab [(2,some 18)] (fun _=>rfl) rfl ?_;intro w1 vals hC1 hi0 hf E hE;clear hi0;have f2:vals 2=_:=hf 2 rfl
     try dsimp only at f2
     clear hf;simp only [sP,f2] at hE ⊢;clear f2;have d0:=(HBX.out.below hC1 HBX.out.lt).cell 2;simp only [bC,List.getElem?_toArray,List.getElem?_cons_zero,List.getElem?_cons_succ] at d0;go_wp2;exact .mk (hE _ _ rfl hC1 rfl)
    ·refine qab [] (fun _=>rfl) rfl ?_;intro w1 vals hC1 hi0 hf E hE;clear hi0;clear hf;simp only [sP] at hE ⊢;go_wp2;exact .mk (hE _ _ rfl hC1 rfl)
    ·refine qab [(3,some 19),(4,some 20)] (fun _=>rfl) rfl ?_;intro w1 vals hC1 hi0 hf E hE;clear hi0;have f3:vals 3=_:=hf 3 rfl;have f4:vals 4=_:=hf 4 rfl
     try dsimp only at f3 f4
     clear hf;simp only [sP,f3,f4] at hE ⊢;clear f3 f4;go_wp2;exact .mk (hE _ _ rfl hC1 rfl)
    ·refine qab [(5,some 21)] (fun _=>rfl) rfl ?_;intro w1 vals hC1 hi0 hf E hE;clear hi0;have f5:vals 5=_:=hf 5 rfl
     try dsimp only at f5
     clear hf;simp only [sP,f5] at hE ⊢;clear f5;go_wp2;exact .mk (hE _ _ rfl hC1 rfl)
    ·refine qab [(6,some 22)] (fun _=>rfl) rfl ?_;intro w1 vals hC1 hi0 hf E hE;clear hi0;have f6:vals 6=_:=hf 6 rfl
     try dsimp only at f6
     clear hf;simp only [sP,f6] at hE ⊢;clear f6;have d0:=(hC1.cell (p:=ad.add (i*2)) HPB.out).trans C0.out;go_wp2;exact .mk (hE _ _ rfl hC1 rfl)
    ·refine qab [(1,some 17),(7,some 23)] (fun _=>rfl) rfl ?_;intro w1 vals hC1 hi0 hf E hE;clear hi0;have f1:vals 1=_:=hf 1 rfl;have f7:vals 7=_:=hf 7 rfl
     try dsimp only at f1 f7
     clear hf;simp only [sP,f1,f7] at hE ⊢;clear f1 f7;have hz:=HZ2.out;go_wp2;exact .mk (hE _ _ rfl hC1 rfl)
    ·refine qab [(8,some 24)] (fun _=>rfl) rfl ?_;intro w1 vals hC1 hi0 hf E hE;clear hi0;have f8:vals 8=_:=hf 8 rfl
     try dsimp only at f8
     clear hf;simp only [sP,f8] at hE ⊢;clear f8;have hz:=HZ3.out;go_wp2;exact .mk (hE _ _ rfl hC1 rfl)
    ·refine qab [] (fun _=>rfl) rfl ?_;intro w1 vals hC1 hi0 hf E hE;clear hi0;clear hf;simp only [sP] at hE ⊢;go_wp2;exact .mk (hE _ _ rfl hC1 rfl)
    ·refine qab [(10,some 26)] (fun _=>rfl) rfl ?_;intro w1 vals hC1 hi0 hf E hE;clear hi0;have f10:vals 10=_:=hf 10 rfl
     try dsimp only at f10
     clear hf;simp only [sP,f10] at hE ⊢;clear f10;have d0:=(HBX.out.below hC1 HBX.out.lt).cell 2;simp only [bC,List.getElem?_toArray,List.getElem?_cons_zero,List.getElem?_cons_succ] at d0;go_wp2;exact .mk (hE _ _ rfl hC1 rfl)
    ·refine qab [] (fun _=>rfl) rfl ?_;intro w1 vals hC1 hi0 hf E hE;clear hi0;clear hf;simp only [sP] at hE ⊢;go_wp2;exact .mk (hE _ _ rfl hC1 rfl)
    ·refine qab [(11,some 27),(12,some 28)] (fun _=>rfl) rfl ?_;intro w1 vals hC1 hi0 hf E hE;clear hi0;have f11:vals 11=_:=hf 11 rfl;have f12:vals 12=_:=hf 12 rfl
     try dsimp only at f11 f12
     clear hf;simp only [sP,f11,f12] at hE ⊢;clear f11 f12;go_wp2;exact .mk (hE _ _ rfl hC1 rfl)
    ·refine qab [(13,some 29)] (fun _=>rfl) rfl ?_;intro w1 vals hC1 hi0 hf E hE;clear hi0;have f13:vals 13=_:=hf 13 rfl
     try dsimp only at f13
     clear hf;simp only [sP,f13] at hE ⊢;clear f13;go_wp2;exact .mk (hE _ _ rfl hC1 rfl)
    ·refine qab [(14,some 30)] (fun _=>rfl) rfl ?_;intro w1 vals hC1 hi0 hf E hE;clear hi0;have f14:vals 14=_:=hf 14 rfl
     try dsimp only at f14
     clear hf;simp only [sP,f14] at hE ⊢;clear f14;have d0:=(hC1.cell (p:=⟨(ad.add (i*2)).block,(ad.add (i*2)).off+1,none⟩) HPB.out).trans C1'.out;go_wp2;exact .mk (hE _ _ rfl hC1 rfl)
    ·refine qab [(15,some 31)] (fun _=>rfl) rfl ?_;intro w1 vals hC1 hi0 hf E hE;clear hi0;have f15:vals 15=_:=hf 15 rfl
     try dsimp only at f15
     clear hf;simp only [sP,f15] at hE ⊢;clear f15;refine qaW (s:=bs X.2) hus hub8 hu8 rfl rfl rfl (by rw [HS32.out]; decide) ?_;intro c7 w7 hr7 hc7 hm7 hb7;rw [HS32.out] at hc7 ⊢;go_wp2_with fail;exact .mk (hE _ _ ⟨_,c7,rfl,hc7,hm7,Nat.zero_le _,hr7⟩ (hC1.trans (hb7.mono hC1.size)) hb7)
    ·refine qab [(16,some 32)] (fun _=>rfl) rfl ?_;intro w1 vals hC1 hi0 hf E hE;clear hi0;have f16:(fun v u=>BytFrom u 0 32 X.2 v) (vals 16) w1:=hf 16 rfl
     try dsimp only at f16
     clear hf;obtain ⟨g9,c9,hx9,hc9,hm9,hl9,hr9⟩:=f16;simp only [sP,hx9] at hE ⊢;clear hx9;go_wp2_with fail;refine qaa (HEN.out _ _ c9 hr9) ?_;rintro e w2 ⟨rfl,hb2⟩;go_wp2_with fail;exact .mk (hE _ _ rfl (hC1.trans (hb2.mono hC1.size)) hb2)
    ·refine qab [(9,some 25),(17,some 33)] (fun _=>rfl) rfl ?_;intro w1 vals hC1 hi0 hf E hE;clear hi0;have f9:vals 9=_:=hf 9 rfl;have f17:vals 17=_:=hf 17 rfl
     try dsimp only at f9 f17
     clear hf;simp only [sP,f9,f17] at hE ⊢;clear f9 f17;have hz:=HZ4.out;go_wp2;exact .mk (hE _ _ rfl hC1 rfl)
    ·refine qab [(18,some 34)] (fun _=>rfl) rfl ?_;intro w1 vals hC1 hi0 hf E hE;clear hi0;have f18:vals 18=_:=hf 18 rfl
     try dsimp only at f18
     clear hf;simp only [sP,f18] at hE ⊢;clear f18;have hz:=HZ5.out;go_wp2;exact .mk (hE _ _ rfl hC1 rfl)
    ·refine qab [(19,some 35),(17,some 33),(0,some 16),(1,some 17),(2,some 18),(3,some 19),(4,some 20),(5,some 21),(6,some 22),(7,some 23),(8,some 24),(9,some 25),(10,some 26),(11,some 27),(12,some 28),(13,some 29),(14,some 30),(15,some 31),(16,some 32),(17,some 33),(18,some 34),(19,some 35)] (fun _=>rfl) rfl ?_;intro w1 vals hC1 hi0 hf E hE;clear hi0;have f0:vals 0=_:=hf 0 rfl;have f1:vals 1=_:=hf 1 rfl;have f2:vals 2=_:=hf 2 rfl;have f3:vals 3=_:=hf 3 rfl;have f4:vals 4=_:=hf 4 rfl;have f5:vals 5=_:=hf 5 rfl;have f6:vals 6=_:=hf 6 rfl;have f7:vals 7=_:=hf 7 rfl;have f8:vals 8=_:=hf 8 rfl;have f9:vals 9=_:=hf 9 rfl;have f10:vals 10=_:=hf 10 rfl;have f11:vals 11=_:=hf 11 rfl;have f12:vals 12=_:=hf 12 rfl;have f13:vals 13=_:=hf 13 rfl;have f14:vals 14=_:=hf 14 rfl;have f15:vals 15=_:=hf 15 rfl;have f16:(fun v u=>BytFrom u 0 32 X.2 v) (vals 16) w1:=hf 16 rfl;have f17:vals 17=_:=hf 17 rfl;have f18:vals 18=_:=hf 18 rfl;have f19:vals 19=_:=hf 19 rfl
     try dsimp only at f0 f1 f2 f3 f4 f5 f6 f7 f8 f9 f10 f11 f12 f13 f14 f15 f16 f17 f18 f19
     clear hf;simp only [sP,f0,f1,f2,f3,f4,f5,f6,f7,f8,f9,f10,f11,f12,f13,f14,f15,f17,f18,f19] at hE ⊢;clear f0 f1 f2 f3 f4 f5 f6 f7 f8 f9 f10 f11 f12 f13 f14 f15 f17 f18 f19;go_wp2;exact .mk (hE _ _ rfl hC1 rfl)
   intro w1 vals hC1 hf;have f0:vals 0=_:=hf 0 (by decide) rfl;have f1:vals 1=_:=hf 1 (by decide) rfl;have f2:vals 2=_:=hf 2 (by decide) rfl;have f3:vals 3=_:=hf 3 (by decide) rfl;have f4:vals 4=_:=hf 4 (by decide) rfl;have f5:vals 5=_:=hf 5 (by decide) rfl;have f6:vals 6=_:=hf 6 (by decide) rfl;have f7:vals 7=_:=hf 7 (by decide) rfl;have f8:vals 8=_:=hf 8 (by decide) rfl;have f9:vals 9=_:=hf 9 (by decide) rfl;have f10:vals 10=_:=hf 10 (by decide) rfl;have f11:vals 11=_:=hf 11 (by decide) rfl;have f12:vals 12=_:=hf 12 (by decide) rfl;have f13:vals 13=_:=hf 13 (by decide) rfl;have f14:vals 14=_:=hf 14 (by decide) rfl;have f15:vals 15=_:=hf 15 (by decide) rfl;have f16:(fun v u=>BytFrom u 0 32 X.2 v) (vals 16) w1:=hf 16 (by decide) rfl;have f17:vals 17=_:=hf 17 (by decide) rfl;have f18:vals 18=_:=hf 18 (by decide) rfl;have f19:vals 19=_:=hf 19 (by decide) rfl;have f20:vals 20=_:=hf 20 (by decide) rfl
   try dsimp only at f0 f1 f2 f3 f4 f5 f6 f7 f8 f9 f10 f11 f12 f13 f14 f15 f16 f17 f18 f19 f20
   clear hf;simp only [sP,f0,f1,f2,f3,f4,f5,f6,f7,f8,f9,f10,f11,f12,f13,f14,f15,f17,f18,f19,f20];clear f0 f1 f2 f3 f4 f5 f6 f7 f8 f9 f10 f11 f12 f13 f14 f15 f17 f18 f19 f20;generalize vals 16=x16 at *;have HB7:=zY (HBW.out.trans (hC1.mono HBW.out.size));rw [HSE.out];clear hC1 HC0;go_wp2_with fail;exact ⟨⟨i+1,HLT.out,by go_num,rfl,HB7.out⟩,by have:=HLT.out; simp [intOf]; omega⟩
  ·obtain rfl:i=n:=by omega
   have HSA:=zY (show S=keysT ks true by rw [HS.out,List.take_of_length_le (by rw [← HN.out]; exact Nat.le_refl _)]);have HZ1:=zY (show ¬ 9223372036854775807<11+(bs D).size by omega);have HZ2:=zY (show ¬ 9223372036854775807<11+(bs D).size+10 by omega);have HZ3:=zY (show ¬ 9223372036854775807<11+(bs D).size+10+(bs S).size by omega);have HZ4:=zY (show ¬ 9223372036854775807<11+(bs D).size+10+(bs S).size+11 by omega);have HZ5:=zY (show ¬ 9223372036854775807<11+(bs D).size+10+(bs S).size+11+(bs (intB num)).size by omega);have HZ6:=zY (show ¬ 9223372036854775807<11+(bs D).size+10+(bs S).size+11+(bs (intB num)).size+1 by omega)
   have HSE:=zY (show (⟨#[123,34,100,111,109,97,105,110,34,58,34]⟩++bs D++⟨#[34,44,34,107,101,121,115,34,58,91]⟩++bs S++⟨#[93,44,34,110,117,109,98,101,114,34,58]⟩++bs (intB num)++⟨#[125]⟩:ByteArray)=R by
    rw [HR0.out,bundleT,← HSA.out];rw [← qbA,← qbA,← qbA,← qbA,← qbA,← qbA];simp only [← ByteArray.append_assoc]
    rfl)
   go_upto_region 8 with (fail)
   have HC0:Below wr.heap.size wr wr.drew:=(Below.refl _ _).drew;clear hSl hDs hIs a2
   refine qas (fun u=>Below wr.heap.size wr u) (fun | false=>(fun _=>True) | true=>(fun _=>True)) (fun | false,_=>false | true,_=>false)
    [fun z _=>z 0=.pointer (some ⟨w.heap.size,0,none⟩),
     fun z _=>z 1=.string (bs D),
     fun z _=>z 2=.string (⟨#[123,34,100,111,109,97,105,110,34,58,34]⟩++bs D),
     fun z _=>z 3=.string (⟨#[123,34,100,111,109,97,105,110,34,58,34]⟩++bs D++⟨#[34,44,34,107,101,121,115,34,58,91]⟩),
     fun z _=>z 4=.string (bs S),
     fun z _=>z 5=.string (⟨#[123,34,100,111,109,97,105,110,34,58,34]⟩++bs D++⟨#[34,44,34,107,101,121,115,34,58,91]⟩++bs S),
     fun z _=>z 6=.string (⟨#[123,34,100,111,109,97,105,110,34,58,34]⟩++bs D++⟨#[34,44,34,107,101,121,115,34,58,91]⟩++bs S++⟨#[93,44,34,110,117,109,98,101,114,34,58]⟩),
     fun z _=>z 7=.pointer (some ⟨w.heap.size,1,none⟩),
     fun z _=>z 8=.int .i64 num,
     fun z _=>z 9=.string (bs (intB num)),
     fun z _=>z 10=.string (⟨#[123,34,100,111,109,97,105,110,34,58,34]⟩++bs D++⟨#[34,44,34,107,101,121,115,34,58,91]⟩++bs S++⟨#[93,44,34,110,117,109,98,101,114,34,58]⟩++bs (intB num)),
     fun z _=>z 11=.string (⟨#[123,34,100,111,109,97,105,110,34,58,34]⟩++bs D++⟨#[34,44,34,107,101,121,115,34,58,91]⟩++bs S++⟨#[93,44,34,110,117,109,98,101,114,34,58]⟩++bs (intB num)++⟨#[125]⟩),
     fun z _=>z 12=.string (⟨#[123,34,100,111,109,97,105,110,34,58,34]⟩++bs D++⟨#[34,44,34,107,101,121,115,34,58,91]⟩++bs S++⟨#[93,44,34,110,117,109,98,101,114,34,58]⟩++bs (intB num)++⟨#[125]⟩)]
    [Eq,Eq,Eq,Eq,Eq,Eq,Eq,Eq,Eq,fun u u'=>Below u.heap.size u u',Eq,Eq,Eq]
    (fun _ _=>false) [(0,some 36),(1,some 37),(2,some 38),(3,some 39),(4,some 40),(5,some 41),(6,some 42),(7,some 43),(8,some 44),(9,some 45),(10,some 46),(11,some 47),(12,some 2)] (by kernel_rfl) (by kernel_rfl) rfl (fun _=>rfl) ?_ ?_ ?_ ?_ ?_ ?_
   ·exact HC0
   ·intro m; cases m; exact trivial; exact trivial
   ·intro m; cases m
    ·refine ⟨?_,?_,?_,?_,?_,?_,?_,?_,?_,.inr (fun _ _ _ h=>h),?_,?_,?_,trivial⟩ <;> exact .inr fun _ _ h h0=>h▸h0
    ·refine ⟨?_,?_,?_,?_,?_,?_,?_,?_,?_,.inr (fun _ _ _ h=>h),?_,?_,?_,trivial⟩ <;> exact .inr fun _ _ h h0=>h▸h0
   ·refine ⟨⟨.inl rfl,?_,?_,?_,?_,?_,?_,?_,?_,?_,?_,?_,?_,trivial⟩,⟨?_,.inl rfl,?_,?_,?_,?_,?_,?_,?_,?_,?_,?_,?_,trivial⟩,⟨?_,?_,.inl rfl,?_,?_,?_,?_,?_,?_,?_,?_,?_,?_,trivial⟩,⟨?_,?_,?_,.inl rfl,?_,?_,?_,?_,?_,?_,?_,?_,?_,trivial⟩,⟨?_,?_,?_,?_,.inl rfl,?_,?_,?_,?_,?_,?_,?_,?_,trivial⟩,⟨?_,?_,?_,?_,?_,.inl rfl,?_,?_,?_,?_,?_,?_,?_,trivial⟩,⟨?_,?_,?_,?_,?_,?_,.inl rfl,?_,?_,?_,?_,?_,?_,trivial⟩,⟨?_,?_,?_,?_,?_,?_,?_,.inl rfl,?_,?_,?_,?_,?_,trivial⟩,⟨?_,?_,?_,?_,?_,?_,?_,?_,.inl rfl,?_,?_,?_,?_,trivial⟩,⟨?_,?_,?_,?_,?_,?_,?_,?_,?_,.inl rfl,?_,?_,?_,trivial⟩,⟨?_,?_,?_,?_,?_,?_,?_,?_,?_,?_,.inl rfl,?_,?_,trivial⟩,⟨?_,?_,?_,?_,?_,?_,?_,?_,?_,?_,?_,.inl rfl,?_,trivial⟩,⟨?_,?_,?_,?_,?_,?_,?_,?_,?_,?_,?_,?_,.inl rfl,trivial⟩,trivial⟩ <;> first | exact .inr (.inr (.inl rfl)) | exact .inr (.inr (.inr fun _ _ _ _ _ h=>h))
   ·refine ⟨?_,?_,?_,?_,?_,?_,?_,?_,?_,?_,?_,?_,?_,trivial⟩
    ·refine qab [] (fun _=>rfl) rfl ?_;intro w1 vals hC1 hi0 hf E hE;clear hi0;clear hf;simp only [sP] at hE ⊢;go_wp2;exact .mk (hE _ _ rfl hC1 rfl)
    ·refine qab [(0,some 36)] (fun _=>rfl) rfl ?_;intro w1 vals hC1 hi0 hf E hE;clear hi0;have f0:vals 0=_:=hf 0 rfl
     try dsimp only at f0
     clear hf;simp only [sP,f0] at hE ⊢;clear f0;have d0:=(HBX.out.below hC1 HBX.out.lt).cell 0;simp only [bC,List.getElem?_toArray,List.getElem?_cons_zero] at d0;go_wp2;exact .mk (hE _ _ rfl hC1 rfl)
    ·refine qab [(1,some 37)] (fun _=>rfl) rfl ?_;intro w1 vals hC1 hi0 hf E hE;clear hi0;have f1:vals 1=_:=hf 1 rfl
     try dsimp only at f1
     clear hf;simp only [sP,f1] at hE ⊢;clear f1;have hz:=HZ1.out;go_wp2;exact .mk (hE _ _ rfl hC1 rfl)
    ·refine qab [(2,some 38)] (fun _=>rfl) rfl ?_;intro w1 vals hC1 hi0 hf E hE;clear hi0;have f2:vals 2=_:=hf 2 rfl
     try dsimp only at f2
     clear hf;simp only [sP,f2] at hE ⊢;clear f2;have hz:=HZ2.out;go_wp2;exact .mk (hE _ _ rfl hC1 rfl)
    ·refine qab [] (fun _=>rfl) rfl ?_;intro w1 vals hC1 hi0 hf E hE;clear hi0;clear hf;simp only [sP] at hE ⊢;go_wp2;exact .mk (hE _ _ rfl hC1 rfl)
    ·refine qab [(3,some 39),(4,some 40)] (fun _=>rfl) rfl ?_;intro w1 vals hC1 hi0 hf E hE;clear hi0;have f3:vals 3=_:=hf 3 rfl;have f4:vals 4=_:=hf 4 rfl
     try dsimp only at f3 f4
     clear hf;simp only [sP,f3,f4] at hE ⊢;clear f3 f4;have hz:=HZ3.out;go_wp2;exact .mk (hE _ _ rfl hC1 rfl)
    ·refine qab [(5,some 41)] (fun _=>rfl) rfl ?_;intro w1 vals hC1 hi0 hf E hE;clear hi0;have f5:vals 5=_:=hf 5 rfl
     try dsimp only at f5
     clear hf;simp only [sP,f5] at hE ⊢;clear f5;have hz:=HZ4.out;go_wp2;exact .mk (hE _ _ rfl hC1 rfl)
    ·refine qab [] (fun _=>rfl) rfl ?_;intro w1 vals hC1 hi0 hf E hE;clear hi0;clear hf;simp only [sP] at hE ⊢;go_wp2;exact .mk (hE _ _ rfl hC1 rfl)
    ·refine qab [(7,some 43)] (fun _=>rfl) rfl ?_;intro w1 vals hC1 hi0 hf E hE;clear hi0;have f7:vals 7=_:=hf 7 rfl
     try dsimp only at f7
     clear hf;simp only [sP,f7] at hE ⊢;clear f7;have d0:=(HBX.out.below hC1 HBX.out.lt).cell 1;simp only [bC,List.getElem?_toArray,List.getElem?_cons_zero,List.getElem?_cons_succ] at d0;go_wp2;exact .mk (hE _ _ rfl hC1 rfl)
    ·refine qab [(8,some 44)] (fun _=>rfl) rfl ?_;intro w1 vals hC1 hi0 hf E hE;clear hi0;have f8:vals 8=_:=hf 8 rfl
     try dsimp only at f8
     clear hf;simp only [sP,f8] at hE ⊢;clear f8;go_wp2_with fail;refine qaa (HDG.out _) ?_;rintro e w2 ⟨rfl,hb2⟩;go_wp2_with fail;exact .mk (hE _ _ rfl (hC1.trans (hb2.mono hC1.size)) hb2)
    ·refine qab [(6,some 42),(9,some 45)] (fun _=>rfl) rfl ?_;intro w1 vals hC1 hi0 hf E hE;clear hi0;have f6:vals 6=_:=hf 6 rfl;have f9:vals 9=_:=hf 9 rfl
     try dsimp only at f6 f9
     clear hf;simp only [sP,f6,f9] at hE ⊢;clear f6 f9;have hz:=HZ5.out;go_wp2;exact .mk (hE _ _ rfl hC1 rfl)
    ·refine qab [(10,some 46)] (fun _=>rfl) rfl ?_;intro w1 vals hC1 hi0 hf E hE;clear hi0;have f10:vals 10=_:=hf 10 rfl
     try dsimp only at f10
     clear hf;simp only [sP,f10] at hE ⊢;clear f10;have hz:=HZ6.out;go_wp2;exact .mk (hE _ _ rfl hC1 rfl)
    ·refine qab [(11,some 47),(9,some 45),(0,some 36),(1,some 37),(2,some 38),(3,some 39),(4,some 40),(5,some 41),(6,some 42),(7,some 43),(8,some 44),(9,some 45),(10,some 46),(11,some 47)] (fun _=>rfl) rfl ?_;intro w1 vals hC1 hi0 hf E hE;clear hi0;have f0:vals 0=_:=hf 0 rfl;have f1:vals 1=_:=hf 1 rfl;have f2:vals 2=_:=hf 2 rfl;have f3:vals 3=_:=hf 3 rfl;have f4:vals 4=_:=hf 4 rfl;have f5:vals 5=_:=hf 5 rfl;have f6:vals 6=_:=hf 6 rfl;have f7:vals 7=_:=hf 7 rfl;have f8:vals 8=_:=hf 8 rfl;have f9:vals 9=_:=hf 9 rfl;have f10:vals 10=_:=hf 10 rfl;have f11:vals 11=_:=hf 11 rfl
     try dsimp only at f0 f1 f2 f3 f4 f5 f6 f7 f8 f9 f10 f11
     clear hf;simp only [sP,f0,f1,f2,f3,f4,f5,f6,f7,f8,f9,f10,f11] at hE ⊢;clear f0 f1 f2 f3 f4 f5 f6 f7 f8 f9 f10 f11;go_wp2;exact .mk (hE _ _ rfl hC1 rfl)
   intro w1 vals hC1 hf;have f0:vals 0=_:=hf 0 (by decide) rfl;have f1:vals 1=_:=hf 1 (by decide) rfl;have f2:vals 2=_:=hf 2 (by decide) rfl;have f3:vals 3=_:=hf 3 (by decide) rfl;have f4:vals 4=_:=hf 4 (by decide) rfl;have f5:vals 5=_:=hf 5 (by decide) rfl;have f6:vals 6=_:=hf 6 (by decide) rfl;have f7:vals 7=_:=hf 7 (by decide) rfl;have f8:vals 8=_:=hf 8 (by decide) rfl;have f9:vals 9=_:=hf 9 (by decide) rfl;have f10:vals 10=_:=hf 10 (by decide) rfl;have f11:vals 11=_:=hf 11 (by decide) rfl;have f12:vals 12=_:=hf 12 (by decide) rfl
   try dsimp only at f0 f1 f2 f3 f4 f5 f6 f7 f8 f9 f10 f11 f12
   clear hf;simp only [sP,f0,f1,f2,f3,f4,f5,f6,f7,f8,f9,f10,f11,f12];clear f0 f1 f2 f3 f4 f5 f6 f7 f8 f9 f10 f11 f12;have HB9:=zY (HBW.out.trans (hC1.mono HBW.out.size));rw [HSE.out];clear hC1 HC0;go_wp2_with fail;go_ret;exact ⟨rfl,HB0.out.trans (HB9.out.mono HB0.out.size)⟩
set_option maxHeartbeats 8000000 in
theorem rjread_any (s:Bs) (w:World) (hs:(s.length:Int)≤9223372036854775807) (hG:Sh.TabG w) :
  Calls Tryz.prog 13 #[.string (bs s)] w (RdkPost s w):=by
 have hu:=Tryz.underlying44;have hub:=Tryz.underlying24;obtain ⟨n,hn⟩:=eX (s.length);have hsz:((bs s).size:Int)=(n:Int):=by rw [qay,hn]
 obtain ⟨W0,hW0⟩:=eX (w.alloc (.cells zB 24));have hb0:Below w.heap.size w W0:=by rw [hW0]; exact (Below.refl _ w).alloc (Nat.le_refl _) _
 have HB0:=zY hb0;have HZ0:=zY (show Blk W0 w.heap.size 24 zB by rw [hW0]; exact Blk.new _ _ _);have HS0:=zY (show W0.heap.size=w.heap.size+1 by rw [hW0]; simp);have HW0:=zY hW0;have HN:=zY hn;have HGT:=zY (fun (u:World) (h:Below w.heap.size w u)=>show Sh.TabG u from hG.below h hG.size);have CJ:=zY (show Calls Tryz.prog 27 #[.string (bs s)] W0 (RrPost s W0) from rread_any s W0 hs)
 have HZR:=zY (fun (k:Int) (h:readK s=(zBD,k)) (u u5:World) (hb:Below w.heap.size w u) (hw5:Wrote w.heap.size u u5)=>show RdkPost s w (.returned (.tuple #[.agg zB,.int .i64 k])) u5 from
  RdkPost.zero h (hw5.below hb (Nat.le_refl _) hb.size))
 have hn1:(n:Int)≤9223372036854775807:=by omega
 clear hW0 hb0 hG hs hn;go_enter Tryz.func13,Tryz.ntmps13
 go_upto_region 1 with (fail)
 rw [show w.alloc (.cells #[.string ⟨#[]⟩,.int .i64 0,.slice none 0 0] 24)=W0 from HW0.out.symm]
 by_cases hl:2000<n
 ·have hl':(2000:Int)<(n:Int):=by omega
  have HRK:=zY (show readK s=(zBD,4) by
   obtain ⟨e,he⟩:=qdz (s:=s) (by rw [← HN.out]; exact hl);rw [readK,he,if_pos (by rw [← HN.out]; exact hl)])
  clear hl;go_wp2_with (refine qac (x:=.tmp 2) (cells:=zB) HZ0.out rfl rfl rfl rfl qaE rfl (by simp [zB,Value.oneCell']) ?_; intro w5 hb5 hw5);refine bodyPost_ret (qai (P:=Tryz.prog) rfl rfl hb5 hub rfl qaE) rfl ?_;exact HZR.out 4 HRK.out W0 w5 HB0.out hw5
 ·have hl':¬ (2000:Int)<(n:Int):=by omega
  have HNL:=zY (show ¬ 2000<s.length by rw [← HN.out]; exact hl);clear hl;go_wp2_with fail;refine qaa CJ.out ?_;rintro e w1 ⟨v,k1,rfl,hb1,hr1⟩;have HB1:=zY (HB0.out.trans (hb1.mono HB0.out.size));have HZ1:=zY (HZ0.out.below hb1 HZ0.out.lt);have HR1:=zY hr1;clear hb1 hr1
  go_upto_region 4 with (refine qac (cells:=jvCells v) (Blk.new _ _ _) rfl rfl rfl rfl qal rfl (qae _) ?_; intro w2 hb2 hw2)
  obtain ⟨H4,hH4⟩:=eX (w1.heap.size);have hbw2:Below w1.heap.size w1 w2:=qaz hw2;rw [← hH4] at hb2 ⊢;have HV2:=zY hb2;have HZ2:=zY (HZ1.out.below hbw2 HZ1.out.lt);have HB2:=zY (HB1.out.trans (hbw2.mono HB1.out.size));have HJ2:=zY (fun (j:JT) (h:JRep w1 (fun b=>W0.heap.size≤b) j v)=>show JRep w2 (fun b=>W0.heap.size≤b) j v from h.heap fun b hb _=>hbw2.block b hb);clear hbw2 hb2 hw2 hH4
  rcases HR1.out with ⟨hk1,j,hq,hj1⟩ | ⟨hk1,hno,hvz⟩
  case inr =>
   have hne:(k1 != 0)=true:=by simpa using hk1
   have HRK:=zY (show readK s=(zBD,13) by
    obtain ⟨e,he⟩:=qcf hno;rw [readK,he,if_neg HNL.out])
   clear hno hvz hk1;go_wp2_with (refine qac (x:=.tmp 2) (cells:=zB) HZ2.out rfl rfl rfl rfl qaE rfl (by simp [zB,Value.oneCell']) ?_; intro w5 hb5 hw5);refine bodyPost_ret (qai (P:=Tryz.prog) rfl rfl hb5 hub rfl qaE) rfl ?_;exact HZR.out 13 HRK.out w2 w5 HB2.out hw5
  case inl =>
   subst hk1;have HJ3:=zY (HJ2.out j hj1);have HNAM:=zY (show namK j from (show OkJ 40000 j from ⟨⟨_,qcp hq⟩,qby hq,qco hq⟩).nam);clear hj1;have HOK:=zY (show OkJ 40000 j from ⟨⟨_,qcp hq⟩,qby hq,qco hq⟩);have HRK:=zY (show readK s=if sureB (bdOf j) s then (bdOf j,0) else (zBD,13) by rw [readK,hq]);have HGY:=zY (fun (x:Bs) (u:World) (h:JRep u (fun b=>W0.heap.size≤b) j v)=>rat_any j v x (fun b=>W0.heap.size≤b) u h (qbe h HOK.out).1 (qbe h HOK.out).2 HNAM.out);clear hq
   go_upto_region 6 with (fail)
   go_wp2_with (refine qad (x:=.tmp 4) (cs:=jvCells v) HV2.out rfl rfl rfl hu rfl qal ?_);refine qaa (HGY.out [100,111,109,97,105,110] w2 HJ3.out) ?_;rintro e w3 ⟨v1,rfl,hj1,hb3⟩;have HB3:=zY (HB2.out.trans (hb3.mono HB2.out.size));have HV3:=zY (HV2.out.below hb3 HV2.out.lt);have HZ3:=zY (HZ2.out.below hb3 HZ2.out.lt);have HR3:=zY (HJ3.out.heap fun b hb _=>hb3.block b hb);have HT1:=zY (show v1.t=textJ (getJ j [100,111,109,97,105,110]) from (qbE hj1).1.symm);clear hj1 hb3
   go_upto_region 7 with (refine qac (cells:=jvCells v1) (Blk.new _ _ _) rfl rfl rfl rfl qal rfl (qae _) ?_; intro w4 hb4 hw4)
   obtain ⟨H6,hH6⟩:=eX (w3.heap.size);have hbw4:Below w3.heap.size w3 w4:=qaz hw4;rw [← hH6] at hb4 ⊢;have HD4:=zY hb4;have HB4:=zY (HB3.out.trans (hbw4.mono HB3.out.size));have HV4:=zY (HV3.out.below hbw4 HV3.out.lt);have HZ4:=zY (HZ3.out.below hbw4 HZ3.out.lt);have HR4:=zY (HR3.out.heap fun b hb _=>hbw4.block b hb);clear hbw4 hb4 hw4 hH6;go_wp2_with (refine qad (x:=.tmp 4) (cs:=jvCells v) HV4.out rfl rfl rfl hu rfl qal ?_);refine qaa (HGY.out [110,117,109,98,101,114] w4 HR4.out) ?_;rintro e w5 ⟨v2,rfl,hj2,hb5⟩;have HB5:=zY (HB4.out.trans (hb5.mono HB4.out.size));have HV5:=zY (HV4.out.below hb5 HV4.out.lt);have HZ5:=zY (HZ4.out.below hb5 HZ4.out.lt);have HD5:=zY (HD4.out.below hb5 HD4.out.lt);have HR5:=zY (HR4.out.heap fun b hb _=>hb5.block b hb);have HT2:=zY (show v2.n=numJ (getJ j [110,117,109,98,101,114]) from (qbE hj2).2.symm);clear hj2 hb5
   go_upto_region 8 with (refine qac (cells:=jvCells v2) (Blk.new _ _ _) rfl rfl rfl rfl qal rfl (qae _) ?_; intro w6 hb6 hw6)
   obtain ⟨H8,hH8⟩:=eX (w5.heap.size);have hbw6:Below w5.heap.size w5 w6:=qaz hw6;rw [← hH8] at hb6 ⊢;have HN6:=zY hb6;have HB6:=zY (HB5.out.trans (hbw6.mono HB5.out.size));have HV6:=zY (HV5.out.below hbw6 HV5.out.lt);have HZ6:=zY (HZ5.out.below hbw6 HZ5.out.lt);have HD6:=zY (HD5.out.below hbw6 HD5.out.lt);have HR6:=zY (HR5.out.heap fun b hb _=>hbw6.block b hb);clear hbw6 hb6 hw6 hH8;go_wp2_with (refine qad (x:=.tmp 4) (cs:=jvCells v) HV6.out rfl rfl rfl hu rfl qal ?_);refine qaa (HGY.out [107,101,121,115] w6 HR6.out) ?_;rintro e w7 ⟨v3,rfl,hj3,hb7⟩;have HB7:=zY (HB6.out.trans (hb7.mono HB6.out.size));have HZ7:=zY (HZ6.out.below hb7 HZ6.out.lt);have HD7:=zY (HD6.out.below hb7 HD6.out.lt);have HN7:=zY (HN6.out.below hb7 HN6.out.lt);have HJ7:=zY hj3;clear hj3 hb7
   go_upto_region 9 with (refine qac (cells:=jvCells v3) (Blk.new _ _ _) rfl rfl rfl rfl qal rfl (qae _) ?_; intro w8 hb8 hw8)
   obtain ⟨H10,hH10⟩:=eX (w7.heap.size);have hbw8:Below w7.heap.size w7 w8:=qaz hw8;rw [← hH10] at hb8 ⊢;have HK8:=zY hb8;have HB8:=zY (HB7.out.trans (hbw8.mono HB7.out.size));have HZ8:=zY (HZ7.out.below hbw8 HZ7.out.lt);have HJ8:=zY (HJ7.out.heap fun b hb _=>hbw8.block b hb);have d6:w8.cell? ⟨H6,2,none⟩=some (.string (bs (textJ (getJ j [100,111,109,97,105,110])))):=by rw [← HT1.out]; exact (HD7.out.below hbw8 HD7.out.lt).cell 2
   have d8:w8.cell? ⟨H8,1,none⟩=some (.int .i64 (numJ (getJ j [110,117,109,98,101,114]))):=by rw [← HT2.out]; exact (HN7.out.below hbw8 HN7.out.lt).cell 1
   clear hbw8 hb8 hw8 hH10;obtain ⟨D,hD⟩:=eX (textJ (getJ j [100,111,109,97,105,110]));obtain ⟨num,hnum⟩:=eX (numJ (getJ j [110,117,109,98,101,114]));obtain ⟨JK,hJK⟩:=eX (getJ j [107,101,121,115]);have HOJ:=zY (show OkJ 40000 JK by rw [hJK]; exact HOK.out.get (by decide) _);have HBD:=zY (show bdOf j=⟨D,num,(kidsJ JK).map keyOfJ⟩ by rw [hD,hnum,hJK]; rfl);have HDL:=zY (show D.length≤40000 by rw [hD]; exact (HOK.out.get (by decide) _).text);rw [← hD] at d6;rw [← hnum] at d8;rw [← hJK] at HJ8;clear hD hnum hJK
   go_upto_region 10 with (refine qac (cells:=bC D num none 0 0) (Blk.new _ _ _) rfl rfl rfl rfl qaE rfl (by simp [bC,Value.oneCell']) ?_; intro w9 hb9 hw9)
   obtain ⟨K,hK⟩:=eX (w8.heap.size);have hbw9:Below w8.heap.size w8 w9:=qaz hw9;rw [← hK] at hb9 hbw9 ⊢;have HK9:=zY (HK8.out.below hbw9 (by rw [hK]; exact HK8.out.lt));have HB9:=zY (HB8.out.trans (hbw9.mono (by rw [hK]; exact HB8.out.size)));have HZ9:=zY (HZ8.out.below hbw9 (by rw [hK]; exact HZ8.out.lt));have HJ9:=zY (show JRep w9 (fun b=>b<K) JK v3 from (HJ8.out.imp (S':=fun b=>b<K) fun b hb _=>by rw [hK]; exact hb).heap fun b hb hlt=>hbw9.block b hlt);have HKR:=zY (show Kr w9 K D num none 0 [] w9 from ⟨Below.refl _ _,hb9,OwnR.nil _ _ _ _⟩);have HWK:=zY (show w.heap.size+1≤K by rw [hK,← HS0.out]; have:=HZ8.out.lt; have:=HS0.out; omega);have HHK:=zY (show K<w9.heap.size from hb9.lt);have HHK10:=zY (show H10<K by rw [hK]; exact HK8.out.lt);clear hb9 hw9 hbw9 hK d6 d8;obtain ⟨ns3,ks3,kv3,hJK3,g1,g1c,hrn3,g2,g2c,hkv3,hrk3,hkids3⟩:=HJ9.out.inv;have HKS3:=zY (show kidsJ JK=ks3 by rw [hJK3]; rfl);obtain ⟨n3,hn3⟩:=eX (ks3.length);have HN3:=zY hn3;have HOK3:=zY (fun (x:JT) (hx:x ∈ ks3)=>HOJ.out.kid (x:=x) (by rw [HKS3.out]; exact hx));have hn9:(n3:Int)≤4096:=by have h:=HOJ.out.counts; rw [HKS3.out] at h; omega
   have HKD:=zY (fun (u:World) (h:Below K w9 u)=>show ∀ (i:Nat) (hi:i<ks3.length) (hi':i<kv3.length),JRep u (fun b=>b<K) ks3[i] kv3[i] from fun i hi hi'=>(hkids3 i hi hi').heap fun b _ hb=>h.block b hb);have HRK3:=zY (fun (u:World) (h:Below K w9 u)=>show Rd u K v3.kA (rowsV jvCells kv3) from (hrk3.rd (B:=K) fun b _ hb=>hb).below h);have HKV3:=zY hkv3
   have HK4:=zY (fun (u:World) (h:Below K w9 u)=>show u.cell? ⟨H10,4,none⟩=some (.slice v3.kA n3 v3.kc) by
    rw [hn3,← g2];exact (HK9.out.below h HHK10.out).cell 4)
   clear hrn3 hrk3 hkids3 g1 g1c g2 g2c hn3 hkv3 hJK3;go_wp2_with fail
   go_loopw [10] (fun x wr=>∃ (i:Nat) (A1:Option Addr) (c1:Nat),i≤n3∧x=.int .i64 (i:Int)∧Kr w9 K D num A1 c1 ((ks3.take i).map keyOfJ) wr) (fun x _=>n3 - (intOf x).toNat)
   case atStart=>exact ⟨0,none,0,Nat.zero_le _,rfl,HKR.out⟩
   case round =>
   obtain ⟨i,A1,c1,hi,rfl,hkr⟩:=hrel;have HKI:=zY hkr;have a4:=HK4.out wr hkr.low
   by_cases hlt:i<n3
   ·have hil:i<ks3.length:=by rw [← HN3.out]; exact hlt
    have hilv:i<kv3.length:=by rw [HKV3.out]; exact hil
    have hlt':(i:Int)<(n3:Int):=by omega
    obtain ⟨ad,hA,hadb,-⟩:=qaO (f:=jvCells) (m:=5) (fun _=>rfl) (by decide) (HRK3.out wr hkr.low) hilv;obtain ⟨Y,hY⟩:=eX (kv3[i]);obtain ⟨X,hX⟩:=eX (ks3[i]);have HJX:=zY (fun (u:World) (h:Below K w9 u)=>show JRep u (fun b=>b<K) X Y by rw [hX,hY]; exact HKD.out u h i hil hilv);have HOX:=zY (show OkJ 40000 X from HOK3.out X (by rw [hX]; exact List.getElem_mem hil))
    have HCL:=zY (fun (u:World) (h:Below K w9 u)=>show ∀ j x,(jvCells Y).toList[j]?=some x→u.cell? ((ad.add (i*5)).add j)=some x from fun j x hx=>by
     obtain ⟨ad',hA',-,hcell⟩:=qaO (f:=jvCells) (m:=5) (fun _=>rfl) (by decide) (HRK3.out u h) hilv;rw [hA] at hA'
     injection hA' with hA'
     subst hA';rw [← hY] at hcell;exact hcell j x (by simpa using hx))
    have HXS:=zY (show (ks3.take (i+1)).map keyOfJ=(ks3.take i).map keyOfJ++[keyOfJ X] by rw [List.take_succ_eq_append_getElem hil,List.map_append,hX]; rfl);have HLL:=zY (show ((ks3.take i).map keyOfJ).length≤4096 by simp; omega);obtain ⟨L,hL⟩:=eX ((ks3.take i).map keyOfJ);rw [← hL] at HKI HXS HLL;have HLT:=zY hlt;have HK4A:=zY (fun (u:World) (h:Below K w9 u)=>show u.cell? ⟨H10,4,none⟩=some (.slice (some ad) n3 v3.kc) by rw [← hA]; exact HK4.out u h);rw [hA] at a4;have HGX:=zY (fun (x:Bs) (u:World) (h:Below K w9 u)=>rat_any X Y x (fun b=>b<K) u (HJX.out u h) (qbe (HJX.out u h) HOX.out).1 (qbe (HJX.out u h) HOX.out).2 HOX.out.nam);clear hY hX hL hil hilv hadb hA hkr hlt;go_wp2_with (refine qaA (r:=(jvCells Y).toList) (HCL.out wr HKI.out.low) rfl rfl rfl hu rfl qal ?_);refine qaa (HGX.out [107,105,100] wr HKI.out.low) ?_;rintro e u6 ⟨v1,rfl,hj1,hb6⟩;have HK6:=zY (HKI.out.new hb6);have HT1:=zY (show bs v1.t=bs (textJ (getJ X [107,105,100])) by rw [(qbE hj1).1]);clear hj1 hb6 a4
    go_upto_region 14 with (refine qac (cells:=jvCells v1) (Blk.new _ _ _) rfl rfl rfl rfl qal rfl (qae _) ?_; intro u7 hb7 hw7)
    obtain ⟨H7,hH7⟩:=eX (u6.heap.size);have hbw7:Below u6.heap.size u6 u7:=qaz hw7;have HK7:=zY (HK6.out.new hbw7);rw [← hH7] at hb7 ⊢;have HV7:=zY hb7;have HGT7:=zY (show K<H7 by rw [hH7]; exact HK6.out.box.lt);clear hbw7 hb7 hw7 hH7;have a4:=HK4A.out u7 HK7.out.low;go_wp2_with (refine qaA (r:=(jvCells Y).toList) (HCL.out u7 HK7.out.low) rfl rfl rfl hu rfl qal ?_);refine qaa (HGX.out [120] u7 HK7.out.low) ?_;rintro e u8 ⟨v2,rfl,hj2,hb8⟩;have HK8:=zY (HK7.out.new hb8);have HV8:=zY (HV7.out.below hb8 HV7.out.lt);have HT2:=zY (show bs v2.t=bs (textJ (getJ X [120])) by rw [(qbE hj2).1]);clear hj2 hb8 a4
    go_upto_region 15 with (refine qac (cells:=jvCells v2) (Blk.new _ _ _) rfl rfl rfl rfl qal rfl (qae _) ?_; intro u9 hb9 hw9)
    obtain ⟨H9,hH9⟩:=eX (u8.heap.size);have hbw9:Below u8.heap.size u8 u9:=qaz hw9;have HK9':=zY (HK8.out.new hbw9);have HV9:=zY (HV8.out.below hbw9 HV8.out.lt);rw [← hH9] at hb9 ⊢;have c9:u9.cell? ⟨H9,2,none⟩=some (.string (bs (textJ (getJ X [120])))):=by rw [← HT2.out]; exact hb9.cell 2
    have CD:=zY (rdecode_any (textJ (getJ X [120])) (by have:=((HOX.out.get (by decide) [120]).text); omega) u9);obtain ⟨T1,hT1⟩:=eX (textJ (getJ X [107,105,100]));obtain ⟨T2,hT2⟩:=eX (textJ (getJ X [120]));have HKX:=zY (show keyOfJ X=(T1,decB T2) by rw [hT1,hT2]; rfl);rw [← hT1] at HT1;rw [← hT2] at c9 CD;clear hbw9 hb9 hw9 hH9 hT1 hT2;go_wp2_with fail;refine qaa CD.out ?_;rintro e u10 ⟨A2,c2,rfl,hc2,hr2,hb10⟩;have HKZ:=zY (HK9'.out.new hb10);have HVZ:=zY (HV9.out.below hb10 HV9.out.lt);obtain ⟨bb,hbb⟩:=eX (decB T2);have HBB:=zY hbb;rw [show (dec T2).getD []=bb from hbb.symm] at hr2 ⊢;have HR2:=zY hr2;obtain ⟨nL,hnL⟩:=eX (L.length);have HNL2:=zY hnL;have hnL9:(nL:Int)≤4096:=by have:=HLL.out; omega
    have e2:u10.cell? ⟨K,2,none⟩=some (.slice A1 nL c1):=by rw [hnL]; exact HKZ.out.box.cell 2
    have e7:u10.cell? ⟨H7,2,none⟩=some (.string (bs T1)):=by rw [← HT1.out]; exact HVZ.out.cell 2
    have HRW:=zY (show OwnR u10 (K+1) 38 2 A1 c1 nL (rowsV kCell L) by rw [hnL]; exact HKZ.out.row);have HKBX:=zY (show Blk u10 K 24 (bC D num A1 nL c1) by rw [hnL]; exact HKZ.out.box);have hus:=Tryz.underlying9;have hub8:=Tryz.underlying40;have hu8:=Tryz.underlying5;clear hc2 hr2 hb10 hbb c9 hnL
    go_wp2_with (first
     | refine qbt (l:=bb) HR2.out hub8 hu8 hus rfl rfl rfl ?_
     | (refine qaP (ys:=[.string (bs T1),.string (bs bb)]) sl_jwks rfl rfl HRW.out rfl rfl rfl rfl (by simp [Value.oneCell']) (by unfold maxLen; omega) (by omega) (HKZ.out.box.lt) ?_; intro A5 c5 u11 ho hg hn5; have HB5:=zY (HKBX.out.grown hg (fun he=>by have:=(HRW.out.lt K he.symm).1; omega)))
     | (refine qaf (x:=.tmp 73) (i:=2) HB5.out rfl rfl rfl rfl (by kernel_rfl) (by simp [bC]) rfl ?_; intro u12 hb12 hw12))
    have ho2:OwnR u11 (K+1) 38 2 A5 c5 (L++[(T1,bb)]).length (rowsV kCell (L++[(T1,bb)])):=by rw [qaT,qbp,List.length_append,← HNL2.out]; exact ho
    have ho3:OwnR u12 (K+1) 38 2 A5 c5 (L++[(T1,bb)]).length (rowsV kCell (L++[(T1,bb)])):=ho2.heap fun k cs hq hl=>(hw12.grown.block k (Array.getElem?_eq_some_iff.1 hq).1 (by intro h; injection h with h; omega)).trans hq;have hlo3:Below K w9 u12:=hw12.below (HKZ.out.low.grown hg (by have:=HKZ.out.box.lt; omega) (fun k hk=>by have:=(HRW.out.lt k hk).1; omega)) (Nat.le_refl _) (by have:=HB5.out.lt; omega);have HKN:=zY (show Kr w9 K D num A5 c5 (L++[(T1,bb)]) u12 from ⟨hlo3,by rw [List.length_append,← HNL2.out]; exact hb12,ho3⟩);clear ho2 ho3 hlo3;clear ho hg hn5 hb12 hw12
    go_roundw
    case rel=>exact ⟨i+1,A5,c5,HLT.out,by go_num,by rw [HXS.out,HKX.out,← HBB.out]; exact HKN.out⟩
    case measure=>have:=HLT.out; simp [intOf]; omega
   obtain rfl:i=n3:=by omega
   have HTK:=zY (show ks3.take i=ks3 from List.take_of_length_le (by rw [← HN3.out]; exact Nat.le_refl _));rw [HTK.out,← HKS3.out] at HKI;clear hkr hlt a4;obtain ⟨w10,hw10⟩:=eX wr;obtain ⟨A',hA'⟩:∃ A',A'=A1:=⟨_,rfl⟩;obtain ⟨c',hc'⟩:∃ c',c'=c1:=⟨_,rfl⟩;rw [← hw10,← hA',← hc'] at HKI;have HKA:=zY HKI.out;have a4:w10.cell? ⟨H10,4,none⟩=some (.slice v3.kA i v3.kc):=by rw [hw10]; exact HK4.out _ (by rw [← hw10]; exact HKI.out.low)
   subst hw10 hA' hc';obtain ⟨L,hL⟩:=eX ((kidsJ JK).map keyOfJ);have HLL:=zY (show L.length≤4096 by rw [hL,List.length_map]; exact HOJ.out.counts)
   have HLX:=zY (show ∀ k ∈ L,(k.2.length:Int)≤9223372036854775807 from fun k hk=>by
    rw [hL] at hk;obtain ⟨x,hx,rfl⟩:=List.mem_map.1 hk;have h1:=decB_len (textJ (getJ x [120]));have h2:=((HOJ.out.kid hx).get (by decide) [120]).text;show ((decB (textJ (getJ x [120]))).length:Int)≤_
    omega)
   rw [← hL] at HKA HBD;clear hL;have HBA:=zY (HB9.out.trans (HKA.out.low.mono (by have:=HWK.out; omega)));have HZA:=zY (HZ9.out.below HKA.out.low (by have:=HWK.out; omega));have CM:=zY (rmay_any D num L A' c' w10.heap.size w10 (HKA.out.row.row.rd) (Nat.le_refl _) (by have:=HDL.out; omega) (by have:=HLL.out; omega) HLX.out);have HSU:=zY (show sureB (bdOf j) s=(mayB D num L && decide (writeV (bundleJ ⟨D,num,L⟩)=s)) by rw [HBD.out]; rfl);have HPB:=zY (fun (h:mayB D num L=true)=>qcU (b:=⟨D,num,L⟩) h);obtain ⟨m,hm⟩:=eX (mayB D num L);rw [← hm] at CM HSU HPB;have HKB:=zY (show Blk w10 K 24 (bC D num A' L.length c') from HKA.out.box);clear hm;go_wp2_with (refine qad (x:=.tmp 9) (cs:=bC D num A' L.length c') HKB.out rfl rfl rfl hub rfl qaE ?_);refine qaa CM.out ?_;rintro e w11 ⟨rfl,hb11⟩;have HBB:=zY (HBA.out.trans (hb11.mono HBA.out.size));have HZB:=zY (HZA.out.below hb11 HZA.out.lt);have HKC:=zY (HKB.out.below hb11 HKB.out.lt);have HRW:=zY (HKA.out.row.below hb11);clear hb11
   cases m with
   | false =>
    have HRZ:=zY (show readK s=(zBD,13) by rw [HRK.out,HSU.out]; rfl);go_wp2_with (refine qac (x:=.tmp 2) (cells:=zB) HZB.out rfl rfl rfl rfl qaE rfl (by simp [zB,Value.oneCell']) ?_; intro w5 hb5 hw5);refine bodyPost_ret (qai (P:=Tryz.prog) rfl rfl hb5 hub rfl qaE) rfl ?_;exact HZR.out 13 HRZ.out w11 w5 HBB.out hw5
   | true =>
    obtain ⟨hpb,hkx⟩:=HPB.out rfl;have CWR:=zY (rwrite11_any D num L A' c' w11.heap.size w11 (HRW.out.row.rd) (Nat.le_refl _) hpb (fun k hk=>(hkx k hk).1));obtain ⟨T,hT⟩:∃ T,T=bundleT ⟨D,num,L⟩:=⟨_,rfl⟩;rw [qd0 hpb,← hT] at HSU;rw [← hT] at CWR;clear hpb hkx hT;have k0:w11.cell? ⟨K,0,none⟩=some (.string (bs D)):=HKC.out.cell 0;have k1:w11.cell? ⟨K,1,none⟩=some (.int .i64 num):=HKC.out.cell 1;have k2:w11.cell? ⟨K,2,none⟩=some (.slice A' L.length c'):=HKC.out.cell 2;go_wp2_with fail;clear k0 k1 k2;refine qaa CWR.out ?_;rintro e w12 ⟨rfl,hb12⟩;have HBC:=zY (HBB.out.trans (hb12.mono HBB.out.size));have HZC:=zY (HZB.out.below hb12 HZB.out.lt);have HKD':=zY (HKC.out.below hb12 HKC.out.lt);have HRX:=zY (HRW.out.below hb12);clear hb12
    by_cases hq:T=s
    ·have hq':((bs T).toList == (bs s).toList)=true:=by rw [qat,qat]; simpa using hq
     have HRZ:=zY (show readK s=(bdOf j,0) by rw [HRK.out,HSU.out,decide_eq_true hq]; rfl);clear hq
     go_wp2_with (first
      | refine qad (x:=.tmp 9) (cs:=bC D num A' L.length c') HKD'.out rfl rfl rfl hub rfl qaE ?_
      | (refine qac (x:=.tmp 2) (cells:=bC D num A' L.length c') HZC.out rfl rfl rfl rfl qaE rfl (by simp [bC,Value.oneCell']) ?_; intro w5 hb5 hw5))
     refine bodyPost_ret (qai (P:=Tryz.prog) rfl rfl hb5 hub rfl qaE) rfl ?_;refine ⟨A',c',?_,?_,hw5.below HBC.out (Nat.le_refl _) HBC.out.size⟩
     ·rw [HRZ.out,HBD.out];rfl
     ·rw [HRZ.out,HBD.out];exact ((qdE HRX.out).heap fun b hb hs=>hw5.grown.block b hb (by intro h; injection h with h; have:=HWK.out; omega)).imp fun b _ hb=>by have:=HWK.out; omega
    ·have hq':((bs T).toList == (bs s).toList)=false:=by rw [qat,qat]; simpa using hq
     have HRZ:=zY (show readK s=(zBD,13) by rw [HRK.out,HSU.out,decide_eq_false hq]; rfl);clear hq;go_wp2_with (refine qac (x:=.tmp 2) (cells:=zB) HZC.out rfl rfl rfl rfl qaE rfl (by simp [zB,Value.oneCell']) ?_; intro w5 hb5 hw5);refine bodyPost_ret (qai (P:=Tryz.prog) rfl rfl hb5 hub rfl qaE) rfl ?_;exact HZR.out 13 HRZ.out w12 w5 HBC.out hw5
theorem neq_jwk (x y:Bs × Bs) (w:World):(binOp .neq 38 (.agg (kCell x)) (.agg (kCell y))).run Tryz.prog w=.ok (.bool (!decide (x=y))) w:=by
 have p0:∀ (z:Bs × Bs) (u:World),(part 9 (kCell z) 0).run Tryz.prog u=.ok (.string (bs z.1)) u:=fun z u=>by kernel_rfl
 have p1:∀ (z:Bs × Bs) (u:World),(part 9 (kCell z) 1).run Tryz.prog u=.ok (.string (bs z.2)) u:=fun z u=>by kernel_rfl
 have hs:=Tryz.underlying9;have hf:Tryz.prog.fieldsOf 38=#[{ name := "Kid",type:=9,offset:=0,embedded:=false,tag := "",pkgPath := "",byteOffset:=0 },{ name := "X",type:=9,offset:=1,embedded:=false,tag := "",pkgPath := "",byteOffset:=16 }]:=by kernel_rfl
 rw [run_neq_struct,run_equalIn_struct w 9999 _ _ _ (by kernel_rfl) (by kernel_rfl),hf]
 have s1:∀ (d:Nat) (s t:Bs),(Op.equalIn (d+1) 9 (.string (bs s)) (.string (bs t))).run Tryz.prog w=.ok (decide (s=t)) w:=fun d s t=>by
  have e:((bs s).toList == (bs t).toList)=decide (s=t):=by rw [qat,qat]; by_cases h:s=t <;> simp [h]
  rw [run_equalIn_string w d _ _ _ hs,e]
 have e1:=fun s t=>s1 9998 s t;simp only [Nat.reduceAdd] at e1;obtain ⟨x1,x2⟩:=x;obtain ⟨y1,y2⟩:=y
 by_cases h1:x1=y1 <;> by_cases h2:x2=y2 <;> simp [Op.eqFields,Sem.run_bind,p0,p1,Result.andThen,e1,h1,h2]
theorem wpList_binop {P:Program} {w:World} {ops:Array Oper} {rest:List Oper} {o:Oper} {a:Act} {Q:Exit→Act→World→Prop} {op:BinOp} {t y':TypeId} {x y:Operand} {u v r:Value}
  (hgd:o.guard=none) (ho:o.op=.binOp op t x y y') (hx:a.eval x=u) (hy:a.eval y=v) (hg:(eqGuard op t x y u v).run P w=.ok () w) (hr:(binOp op t u v).run P w=.ok r w) (h:wpList P ops Q rest (a.put o.dst r) w):wpList P ops Q (o :: rest) a w:=by
 refine wpList_plain hgd fun K hK=>?_;unfold Oper.wp execOp;simp only [ho,hx,hy,Sem.run_bind,Sem.run_pure,Result.andThen_ok,hg,hr];exact hK _ _ h
def sameB (D1:Bs) (n1:Int) (k1:List (Bs × Bs)) (D2:Bs) (n2:Int) (k2:List (Bs × Bs)):Bool:=decide (D1=D2) && decide (n1=n2) && decide (k1=k2)
theorem take_same {k1 k2:List (Bs × Bs)} {i:Nat} (h:k1.take i=k2.take i) (h1:i<k1.length) (h2:i<k2.length) (he:k1[i]=k2[i]):k1.take (i+1)=k2.take (i+1):=by
 rw [List.take_succ_eq_append_getElem h1,List.take_succ_eq_append_getElem h2,h,he]
theorem same11_any (D1 D2:Bs) (n1 n2:Int) (k1 k2:List (Bs × Bs)) (A1 A2:Option Addr) (c1 c2 Bo1 Bo2:Nat) (w:World) (hr1:Rd w Bo1 A1 (rowsV kCell k1)) (hr2:Rd w Bo2 A2 (rowsV kCell k2)) (hB1:Bo1≤w.heap.size) (hB2:Bo2≤w.heap.size)
  (hl1:(k1.length:Int)≤9223372036854775807) (hl2:(k2.length:Int)≤9223372036854775807) :
  Calls Tryz.prog 10 #[.agg (bC D1 n1 A1 k1.length c1),.agg (bC D2 n2 A2 k2.length c2)] w fun e w'=>e=.returned (.bool (sameB D1 n1 k1 D2 n2 k2))∧Below w.heap.size w w':=by
 obtain ⟨r,hrr⟩:=eX (sameB D1 n1 k1 D2 n2 k2);rw [← hrr];have HRR:=zY hrr;obtain ⟨m1,hm1⟩:=eX (k1.length);obtain ⟨m2,hm2⟩:=eX (k2.length);rw [← hm1] at hl1 ⊢;rw [← hm2] at hl2 ⊢;have HM1:=zY hm1;have HM2:=zY hm2;obtain ⟨W0,hW0⟩:=eX ((w.alloc (.cells (bC D1 n1 A1 m1 c1) 24)).alloc (.cells (bC D2 n2 A2 m2 c2) 24));have hb0:Below w.heap.size w W0:=by rw [hW0]; exact ((Below.refl _ w).alloc (Nat.le_refl _) _).alloc (by simp) _
 have HB0:=zY hb0;have HK1:=zY (show Blk W0 w.heap.size 24 (bC D1 n1 A1 m1 c1) by rw [hW0]; exact (Blk.new _ _ _).alloc _);have HK2:=zY (show Blk W0 (w.heap.size+1) 24 (bC D2 n2 A2 m2 c2) by rw [hW0]; have:=Blk.new (w.alloc (.cells (bC D1 n1 A1 m1 c1) 24)) 24 (bC D2 n2 A2 m2 c2); simpa using this);have HR1:=zY (hr1.below (hb0.mono hB1));have HR2:=zY (hr2.below (hb0.mono hB2));have HW0:=zY hW0;have a0:W0.cell? ⟨w.heap.size,0,none⟩=some (.string (bs D1)):=HK1.out.cell 0;have a1:W0.cell? ⟨w.heap.size,1,none⟩=some (.int .i64 n1):=HK1.out.cell 1;have a2:W0.cell? ⟨w.heap.size,2,none⟩=some (.slice A1 m1 c1):=HK1.out.cell 2;have b0:W0.cell? ⟨w.heap.size+1,0,none⟩=some (.string (bs D2)):=HK2.out.cell 0;have b1:W0.cell? ⟨w.heap.size+1,1,none⟩=some (.int .i64 n2):=HK2.out.cell 1;have b2:W0.cell? ⟨w.heap.size+1,2,none⟩=some (.slice A2 m2 c2):=HK2.out.cell 2;clear hW0 hb0 hr1 hr2 hrr hm1 hm2 hB1 hB2;go_enter Tryz.func10,Tryz.ntmps10
 go_upto_region 1 with (fail)
 rw [show (w.alloc (.cells (bC D1 n1 A1 m1 c1) 24)).alloc (.cells (bC D2 n2 A2 m2 c2) 24)=W0 from HW0.out.symm];generalize Value.agg (bC D1 n1 A1 m1 c1)=AV1;generalize Value.agg (bC D2 n2 A2 m2 c2)=AV2
 by_cases hD:D1=D2
 ·have hq:((bs D1).toList == (bs D2).toList)=true:=by rw [qat,qat]; simpa using hD
  by_cases hn:n1=n2
  ·have hn':(n1 == n2)=true:=by simpa using hn
   by_cases hm:m1=m2
   ·have HRE:=zY (show r=decide (k1=k2) by rw [HRR.out,sameB,decide_eq_true hD,decide_eq_true hn]; rfl);have HL2:=zY (show m1=k2.length by rw [hm]; exact HM2.out);subst hm hn;clear hD hn' hl2;go_wp2_with fail
    go_loopw [5] (fun x wr=>∃ i:Nat,i≤m1∧x=.int .i64 (i:Int)∧k1.take i=k2.take i∧Below W0.heap.size W0 wr) (fun x _=>m1 - (intOf x).toNat)
    case atStart=>exact ⟨0,Nat.zero_le _,rfl,by simp,(Below.refl _ _)⟩
    case round =>
     obtain ⟨i,hi,rfl,htk,hbw⟩:=hrel;have HTK:=zY htk;have HBW:=zY hbw;have HX1:=zY (HK1.out.below hbw HK1.out.lt);have HX2:=zY (HK2.out.below hbw HK2.out.lt);have a2:wr.cell? ⟨w.heap.size,2,none⟩=some (.slice A1 m1 c1):=HX1.out.cell 2;clear htk hbw
     by_cases hlt:i<m1
     ·have huj:=Tryz.underlying38;have hil1:i<k1.length:=by rw [← HM1.out]; exact hlt
      have hil2:i<k2.length:=by rw [← HL2.out]; exact hlt
      have hlt':(i:Int)<(m1:Int):=by omega
      obtain ⟨ad1,hA1,-,hcell1⟩:=qaO (f:=kCell) (m:=2) (fun _=>rfl) (by decide) (HR1.out) hil1;obtain ⟨ad2,hA2,-,hcell2⟩:=qaO (f:=kCell) (m:=2) (fun _=>rfl) (by decide) (HR2.out) hil2;subst hA1 hA2;obtain ⟨X,hX⟩:=eX (k1[i]);obtain ⟨Y,hY⟩:=eX (k2[i]);rw [← hX] at hcell1;rw [← hY] at hcell2
      have HC1:=zY (show ∀ u,Below W0.heap.size W0 u→∀ j v,(kCell X).toList[j]?=some v→u.cell? ((ad1.add (i*2)).add j)=some v from fun u hu j v hv=>by
       have h:=hcell1 j v (by simpa using hv);exact (hu.cell (World.block_lt_of_cell? W0 _ h)).trans h)
      have HC2:=zY (show ∀ u,Below W0.heap.size W0 u→∀ j v,(kCell Y).toList[j]?=some v→u.cell? ((ad2.add (i*2)).add j)=some v from fun u hu j v hv=>by
       have h:=hcell2 j v (by simpa using hv);exact (hu.cell (World.block_lt_of_cell? W0 _ h)).trans h)
      have HNQ:=zY (neq_jwk X Y);obtain ⟨q,hqq⟩:=eX (decide (X=Y));rw [← hqq] at HNQ;have HLT:=zY hlt;have HXI:=zY (show ∃ (h1:i<k1.length) (h2:i<k2.length),X=k1[i]∧Y=k2[i] from ⟨hil1,hil2,hX,hY⟩);have HQQ:=zY hqq;clear hX hY hcell1 hcell2 hil1 hil2 hlt hqq;go_wp2_with fail;have HC0:Below wr.heap.size wr wr.drew:=(Below.refl _ _).drew
      refine qas (fun u=>Below wr.heap.size wr u) (fun | false=>(fun _=>True) | true=>(fun _=>True)) (fun | false,_=>false | true,_=>false)
       [fun z _=>z 0=.pointer (some ⟨w.heap.size,2,none⟩),
        fun z _=>z 1=.slice (some ad1) m1 c1,
        fun z _=>z 2=.int .i64 (i:Int),
        fun z _=>z 3=.pointer (some (ad1.add (i*2))),
        fun z _=>z 4=.agg (kCell X),
        fun z _=>z 5=.pointer (some ⟨w.heap.size+1,2,none⟩),
        fun z _=>z 6=.slice (some ad2) m1 c2,
        fun z _=>z 7=.int .i64 (i:Int),
        fun z _=>z 8=.pointer (some (ad2.add (i*2))),
        fun z _=>z 9=.agg (kCell Y),
        fun z _=>z 10=.bool (!q)]
       [Eq,Eq,Eq,Eq,Eq,Eq,Eq,Eq,Eq,Eq,Eq]
       (fun _ _=>false) [(0,some 34),(1,some 35),(2,some 36),(3,some 37),(4,some 38),(5,some 39),(6,some 40),(7,some 41),(8,some 42),(9,some 43),(10,some 44)] (by kernel_rfl) (by kernel_rfl) rfl (fun _=>rfl) ?_ ?_ ?_ ?_ ?_ ?_
      ·exact HC0
      ·intro m; cases m; exact trivial; exact trivial
      ·intro m; cases m
       ·refine ⟨?_,?_,?_,?_,?_,?_,?_,?_,?_,?_,?_,trivial⟩ <;> exact .inr fun _ _ h h0=>h▸h0
       ·refine ⟨?_,?_,?_,?_,?_,?_,?_,?_,?_,?_,?_,trivial⟩ <;> exact .inr fun _ _ h h0=>h▸h0
      ·refine ⟨⟨.inl rfl,?_,?_,?_,?_,?_,?_,?_,?_,?_,?_,trivial⟩,⟨?_,.inl rfl,?_,?_,?_,?_,?_,?_,?_,?_,?_,trivial⟩,⟨?_,?_,.inl rfl,?_,?_,?_,?_,?_,?_,?_,?_,trivial⟩,⟨?_,?_,?_,.inl rfl,?_,?_,?_,?_,?_,?_,?_,trivial⟩,⟨?_,?_,?_,?_,.inl rfl,?_,?_,?_,?_,?_,?_,trivial⟩,⟨?_,?_,?_,?_,?_,.inl rfl,?_,?_,?_,?_,?_,trivial⟩,⟨?_,?_,?_,?_,?_,?_,.inl rfl,?_,?_,?_,?_,trivial⟩,⟨?_,?_,?_,?_,?_,?_,?_,.inl rfl,?_,?_,?_,trivial⟩,⟨?_,?_,?_,?_,?_,?_,?_,?_,.inl rfl,?_,?_,trivial⟩,⟨?_,?_,?_,?_,?_,?_,?_,?_,?_,.inl rfl,?_,trivial⟩,⟨?_,?_,?_,?_,?_,?_,?_,?_,?_,?_,.inl rfl,trivial⟩,trivial⟩ <;> first | exact .inr (.inr (.inl rfl)) | exact .inr (.inr (.inr fun _ _ _ _ _ h=>h))
      ·refine ⟨?_,?_,?_,?_,?_,?_,?_,?_,?_,?_,?_,trivial⟩
       ·refine qab [] (fun _=>rfl) rfl ?_;intro w1 vals hC1 hi0 hf E hE;clear hi0;clear hf;simp only [sP] at hE ⊢;go_wp2;exact .mk (hE _ _ rfl hC1 rfl)
       ·refine qab [(0,some 34)] (fun _=>rfl) rfl ?_;intro w1 vals hC1 hi0 hf E hE;clear hi0;have f0:vals 0=_:=hf 0 rfl
        try dsimp only at f0
        clear hf;simp only [sP,f0] at hE ⊢;clear f0;have d0:=(HX1.out.below hC1 HX1.out.lt).cell 2;simp only [bC,List.getElem?_toArray,List.getElem?_cons_zero,List.getElem?_cons_succ] at d0;go_wp2;exact .mk (hE _ _ rfl hC1 rfl)
       ·refine qab [] (fun _=>rfl) rfl ?_;intro w1 vals hC1 hi0 hf E hE;clear hi0;clear hf;simp only [sP] at hE ⊢;go_wp2;exact .mk (hE _ _ rfl hC1 rfl)
       ·refine qab [(1,some 35),(2,some 36)] (fun _=>rfl) rfl ?_;intro w1 vals hC1 hi0 hf E hE;clear hi0;have f1:vals 1=_:=hf 1 rfl;have f2:vals 2=_:=hf 2 rfl
        try dsimp only at f1 f2
        clear hf;simp only [sP,f1,f2] at hE ⊢;clear f1 f2;go_wp2;exact .mk (hE _ _ rfl hC1 rfl)
       ·refine qab [(3,some 37)] (fun _=>rfl) rfl ?_;intro w1 vals hC1 hi0 hf E hE;clear hi0;have f3:vals 3=_:=hf 3 rfl
        try dsimp only at f3
        clear hf;simp only [sP,f3] at hE ⊢;clear f3;refine qaA (r:=(kCell X).toList) (HC1.out _ (HBW.out.trans (hC1.mono HBW.out.size))) rfl rfl rfl huj rfl qbR ?_;go_wp2_with fail;exact .mk (hE _ _ rfl hC1 rfl)
       ·refine qab [] (fun _=>rfl) rfl ?_;intro w1 vals hC1 hi0 hf E hE;clear hi0;clear hf;simp only [sP] at hE ⊢;go_wp2;exact .mk (hE _ _ rfl hC1 rfl)
       ·refine qab [(5,some 39)] (fun _=>rfl) rfl ?_;intro w1 vals hC1 hi0 hf E hE;clear hi0;have f5:vals 5=_:=hf 5 rfl
        try dsimp only at f5
        clear hf;simp only [sP,f5] at hE ⊢;clear f5;have d0:=(HX2.out.below hC1 HX2.out.lt).cell 2;simp only [bC,List.getElem?_toArray,List.getElem?_cons_zero,List.getElem?_cons_succ] at d0;go_wp2;exact .mk (hE _ _ rfl hC1 rfl)
       ·refine qab [] (fun _=>rfl) rfl ?_;intro w1 vals hC1 hi0 hf E hE;clear hi0;clear hf;simp only [sP] at hE ⊢;go_wp2;exact .mk (hE _ _ rfl hC1 rfl)
       ·refine qab [(6,some 40),(7,some 41)] (fun _=>rfl) rfl ?_;intro w1 vals hC1 hi0 hf E hE;clear hi0;have f6:vals 6=_:=hf 6 rfl;have f7:vals 7=_:=hf 7 rfl
        try dsimp only at f6 f7
        clear hf;simp only [sP,f6,f7] at hE ⊢;clear f6 f7;go_wp2;exact .mk (hE _ _ rfl hC1 rfl)
       ·refine qab [(8,some 42)] (fun _=>rfl) rfl ?_;intro w1 vals hC1 hi0 hf E hE;clear hi0;have f8:vals 8=_:=hf 8 rfl
        try dsimp only at f8
        clear hf;simp only [sP,f8] at hE ⊢;clear f8;refine qaA (r:=(kCell Y).toList) (HC2.out _ (HBW.out.trans (hC1.mono HBW.out.size))) rfl rfl rfl huj rfl qbR ?_;go_wp2_with fail;exact .mk (hE _ _ rfl hC1 rfl)
       ·refine qab [(4,some 38),(9,some 43)] (fun _=>rfl) rfl ?_;intro w1 vals hC1 hi0 hf E hE;clear hi0;have f4:vals 4=_:=hf 4 rfl;have f9:vals 9=_:=hf 9 rfl
        try dsimp only at f4 f9
        clear hf;simp only [sP,f4,f9] at hE ⊢;clear f4 f9;refine wpList_binop rfl rfl rfl rfl (run_eqGuard_agg w1 _ _ _ _ _ _ (by kernel_rfl)) (HNQ.out w1) ?_;go_wp2_with fail;exact .mk (hE _ _ rfl hC1 rfl)
      intro w1 vals hC1 hf;have f0:vals 0=_:=hf 0 (by decide) rfl;have f1:vals 1=_:=hf 1 (by decide) rfl;have f2:vals 2=_:=hf 2 (by decide) rfl;have f3:vals 3=_:=hf 3 (by decide) rfl;have f4:vals 4=_:=hf 4 (by decide) rfl;have f5:vals 5=_:=hf 5 (by decide) rfl;have f6:vals 6=_:=hf 6 (by decide) rfl;have f7:vals 7=_:=hf 7 (by decide) rfl;have f8:vals 8=_:=hf 8 (by decide) rfl;have f9:vals 9=_:=hf 9 (by decide) rfl;have f10:vals 10=_:=hf 10 (by decide) rfl
      try dsimp only at f0 f1 f2 f3 f4 f5 f6 f7 f8 f9 f10
      clear hf;simp only [sP,f0,f1,f2,f3,f4,f5,f6,f7,f8,f9,f10];clear f0 f1 f2 f3 f4 f5 f6 f7 f8 f9 f10;have HB6:=zY (HBW.out.trans (hC1.mono HBW.out.size));clear hC1 HC0
      cases q with
      | true =>
       have HT2:=zY (show k1.take (i+1)=k2.take (i+1) by
        obtain ⟨h1,h2,hx,hy⟩:=HXI.out;exact take_same HTK.out h1 h2 (by rw [← hx,← hy]; exact of_decide_eq_true HQQ.out.symm))
       go_wp2_with fail
       go_roundw
       case rel=>exact ⟨i+1,HLT.out,by go_num,HT2.out,HB6.out⟩
       case measure=>have:=HLT.out; simp [intOf]; omega
      | false =>
       have HRF:=zY (show r=false by
        obtain ⟨h1,h2,hx,hy⟩:=HXI.out;rw [HRE.out,decide_eq_false];intro h;subst h;exact of_decide_eq_false HQQ.out.symm (hx.trans hy.symm))
       go_wp2_with fail;go_ret;exact ⟨by rw [HRF.out]; rfl,HB0.out.trans (HB6.out.mono HB0.out.size)⟩
     ·obtain rfl:i=m1:=by omega
      have HRT:=zY (show r=true by
       rw [HRE.out,decide_eq_true];have h:=HTK.out
       rwa [List.take_of_length_le (by rw [← HM1.out]; exact Nat.le_refl _),List.take_of_length_le (by rw [← HL2.out]; exact Nat.le_refl _)] at h)
      go_wp2_with fail;go_ret;exact ⟨by rw [HRT.out]; rfl,HB0.out.trans (HBW.out.mono HB0.out.size)⟩
   ·have hm':((m1:Int) == (m2:Int))=false:=by simp; omega
    have HRF:=zY (show r=false by rw [HRR.out,sameB,decide_eq_false (show ¬ k1=k2 from fun h=>hm (by rw [HM1.out,HM2.out,h]))]; simp);go_wp2_with fail;go_ret;exact ⟨by rw [HRF.out]; rfl,HB0.out⟩
  ·have hn':(n1 == n2)=false:=by simpa using hn
   have HRF:=zY (show r=false by rw [HRR.out,sameB,decide_eq_false hn]; simp);go_wp2_with fail;go_ret;exact ⟨by rw [HRF.out]; rfl,HB0.out⟩
 ·have hq:((bs D1).toList == (bs D2).toList)=false:=by rw [qat,qat]; simpa using hD
  have HRF:=zY (show r=false by rw [HRR.out,sameB,decide_eq_false hD]; rfl);go_wp2_with fail;go_ret;exact ⟨by rw [HRF.out]; rfl,HB0.out⟩
theorem sameB_refl2 (D:Bs) (n:Int) (k:List (Bs × Bs)):sameB D n k D n k=true:=by simp [sameB]
theorem readK_keys (s:Bs):((readK s).1.keys.length:Int)≤9223372036854775807:=by
 unfold readK
 split
 ·show (([]:List (Bs × Bs)).length:Int)≤_;simp
 ·rename_i j hj
  split
  ·rename_i hs
   have h1:mayB (bdOf j).dom (bdOf j).num (bdOf j).keys=true:=by
    unfold sureB at hs;simp only [Bool.and_eq_true] at hs;exact hs.1
   have h2:=(qcU h1).1.kn;show ((bdOf j).keys.length:Int)≤_;omega
  ·show (([]:List (Bs × Bs)).length:Int)≤_;simp
theorem jwkReads_any (s:Bs) (w:World) (hs:(s.length:Int)≤9223372036854775807) (hG:Sh.TabG w) :
  Calls Tryz.prog 4 #[.string (bs s)] w fun e w'=>e=.returned (.bool true)∧Below w.heap.size w w':=by
 have hub:=Tryz.underlying24;have CF:=zY (show Calls Tryz.prog 12 #[.string (bs s),.int .i64 900] w fun e w'=>e=.returned (.string (bs (s.take 900)))∧w'=w from few_any s 900 hs w);obtain ⟨t,ht⟩:=eX (s.take 900);rw [← ht] at CF;have HTL:=zY (show (t.length:Int)≤9223372036854775807 by rw [ht,List.length_take]; omega);have HG:=zY hG;have HB0:=zY (Below.refl w.heap.size w);have CR:=zY (jwkread_any t w HTL.out hG);have CQ:=zY (fun (u:World) (h:Below w.heap.size w u)=>rjread_any t u HTL.out (HG.out.below h HG.out.size));have HLV:=zY jlives_any;have HKL:=zY (readK_keys t);clear ht hG hs;go_enter Tryz.func4,Tryz.ntmps4;go_wp2_with fail;refine qaa CF.out ?_;rintro e w1 ⟨rfl,rfl⟩;go_wp2_with fail;refine qaa CR.out ?_;intro e u1 hp;unfold RdkPost at hp;obtain ⟨A1,c1,rfl,hr1,hb1⟩:=hp;obtain ⟨K,hK⟩:=eX (readK t);rw [← hK] at hr1 HKL ⊢;have HK:=zY hK;obtain ⟨⟨D,num,ks⟩,k⟩:=K;dsimp only at hr1 HKL ⊢;obtain ⟨n,hn⟩:=eX (ks.length);have HN:=zY hn;rw [← hn];have HB1:=zY hb1;have HR1:=zY hr1;clear hr1 hb1 hK hn
 go_upto_region 3 with (refine qac (cells:=bC D num A1 n c1) (Blk.new _ _ _) rfl rfl rfl rfl qaE rfl (by simp [bC,Value.oneCell']) ?_; intro u2 hb2 hw2)
 obtain ⟨H3,hH3⟩:=eX (u1.heap.size);have hbw2:Below u1.heap.size u1 u2:=qaz hw2;rw [← hH3] at hb2 ⊢;have HC2:=zY hb2;have HB2:=zY (HB1.out.trans (hbw2.mono HB1.out.size));have HR2:=zY (show Rd u2 u2.heap.size A1 (rowsV kCell ks) from (HR1.out.heap fun b hb _=>hbw2.block b hb).rd fun b hb _=>hb);have CQ2:=zY (CQ.out u2 HB2.out);clear hbw2 hb2 hw2 hH3;go_wp2_with fail;refine qaa CQ2.out ?_;intro e u3 hp;unfold RdkPost at hp;rw [← HK.out] at hp;dsimp only at hp;rw [← HN.out] at hp;obtain ⟨A2,c2,rfl,hr3,hb3⟩:=hp;have HB3:=zY (HB2.out.trans (hb3.mono HB2.out.size));have HC3:=zY (HC2.out.below hb3 HC2.out.lt);have HR3:=zY (HR2.out.below hb3);have HR3s:=zY hb3.size;have HQ3:=zY hr3;clear hr3 hb3
 go_upto_region 4 with (refine qac (cells:=bC D num A2 n c2) (Blk.new _ _ _) rfl rfl rfl rfl qaE rfl (by simp [bC,Value.oneCell']) ?_; intro u4 hb4 hw4)
 obtain ⟨H5,hH5⟩:=eX (u3.heap.size);have hbw4:Below u3.heap.size u3 u4:=qaz hw4;rw [← hH5] at hb4 ⊢;have HD4:=zY hb4;have HB4:=zY (HB3.out.trans (hbw4.mono HB3.out.size));have HC4:=zY (HC3.out.below hbw4 HC3.out.lt);have HR4:=zY (show Rd u4 u4.heap.size A1 (rowsV kCell ks) from (HR3.out.below (hbw4.mono HR3s.out)).mono (Nat.le_trans HR3s.out hbw4.size));have HQ4:=zY (show Rd u4 u4.heap.size A2 (rowsV kCell ks) from (HQ3.out.heap fun b hb _=>hbw4.block b hb).rd fun b hb _=>hb);have CS:=zY (same11_any D D num num ks ks A1 A2 c1 c2 u4.heap.size u4.heap.size u4 HR4.out HQ4.out (Nat.le_refl _) (Nat.le_refl _) HKL.out HKL.out);rw [sameB_refl2,← HN.out] at CS;clear hbw4 hb4 hw4 hH5;have hkk:(k == k)=true:=by simp
 go_wp2_with (first
  | (refine qad (x:=.tmp 3) (cs:=bC D num A1 n c1) HC4.out rfl rfl rfl hub rfl qaE ?_)
  | (refine qad (x:=.tmp 5) (cs:=bC D num A2 n c2) HD4.out rfl rfl rfl hub rfl qaE ?_))
 refine qaa CS.out ?_;rintro e u5 ⟨rfl,hb5⟩;have HB5:=zY (HB4.out.trans (hb5.mono HB4.out.size));clear hb5;go_wp2_with (go_at_call 8; refine qaa (HLV.out _) ?_; rintro e W' ⟨rfl,hb'⟩; have HB':=zY (HB5.out.trans (hb'.mono HB5.out.size)); clear hb');go_ret;exact ⟨rfl,HB'.out⟩
end Go.Proofs.YtlkikjeccamheaaGreatDoor.Js
namespace Go.Proofs.YtlkikjeccamheaaGreatDoor.Js
set_option linter.unusedSimpArgs false
set_option linter.unusedVariables false
set_option maxRecDepth 100000
set_option maxHeartbeats 4000000
open Go.ChangeShapes Go.WideShapes Go.ChangeAt Go.RowKit Go.Joins
def FitK (ks:List (Bs × Bs)):Prop:=ks.length≤maxLen∧∀ k ∈ ks,k.1.length≤maxLen∧k.2.length≤maxLen
section
variable {H:Type} {enc:TypeId × Value→H} {w:World} {base:Nat} {spare:Nat→Bool} {held:Bool}
theorem open_jwk {fuel:Nat} {cs:List Value} {x:DataW H × List MemPlace} (h:DataW.trod enc Tryz.prog w base spare held fuel 38 cs=some x) (hl:cs.length=2) :
  ∃ k:Bs × Bs,cs=(kCell k).toList∧k.1.length≤maxLen∧k.2.length≤maxLen:=by
 obtain ⟨xs,n,_,hx,_,hlen,hf⟩:=DataW.trod_struct Tryz.underlying38 h
 match xs,hlen,cs,hl with
 | [y0,y1],_,[v0,v1],_ =>
  have c0:Tryz.prog.cellsOf 9=1:=by kernel_rfl
  have g0:=hf 0 _ rfl;have g1:=hf 1 _ rfl;simp [c0] at g0 g1;obtain ⟨s0,e0,-,w0⟩:=DataW.trod_string Tryz.underlying9 g0;obtain ⟨s1,e1,-,w1⟩:=DataW.trod_string Tryz.underlying9 g1
  injection e0 with e0
  injection e1 with e1
  subst e0 e1;exact ⟨(s0.data.toList,s1.data.toList),by simp [kCell,bs_self],by simpa using w0,by simpa using w1⟩
theorem open_jwks {fuel:Nat} {cs:List Value} {x:DataW H × List MemPlace} (h:DataW.trod enc Tryz.prog w base spare held fuel 22 cs=some x) :
  ∃ (A:Option Addr) (c:Nat) (l:List (Bs × Bs)),cs=[.slice A l.length c]∧Rd w w.heap.size A (rowsV kCell l)∧FitK l:=by
 have c4:Tryz.prog.cellsOf 38=2:=by kernel_rfl
 rcases Deep.open_slice Tryz.underlying22 h with ⟨rfl,_⟩ | ⟨a,len,cap,m,n,D,Pl,rfl,hb,hl,hm,hmm,rfl,hx⟩
 ·exact ⟨none,0,[],rfl,Rd.nil _ _ _,Nat.zero_le _,fun k hk=>by cases hk⟩
 ·have hlm:len≤m:=by rw [hmm]; split <;> omega
  rw [c4] at hx
  obtain ⟨f,hf⟩:=Deep.choose_lt (α:=Bs × Bs) (n:=m) (p:=fun i q=>w.cells? base (a.add (i*2)) 2=some (kCell q).toList∧q.1.length≤maxLen∧q.2.length≤maxLen) (fun i hi=>by
   obtain ⟨cs',h1,h2⟩:=hx i hi;obtain ⟨_,hlen,_⟩:=World.cells?_some h1;obtain ⟨k,rfl,hk,hk2⟩:=open_jwk h2 hlen;exact ⟨k,h1,hk,hk2⟩)
  refine ⟨some a,cap,(List.range len).map f,by simp,fun i u hu=>?_,by simp; omega,fun k hk=>?_⟩
  ·have hl5:(rowsV kCell ((List.range len).map f)).length=len*2:=by rw [rowsV_len (m:=2) (fun _=>rfl)]; simp
   have hi:i<len*2:=by
    have:=(List.getElem?_eq_some_iff.1 hu).1
    rwa [hl5] at this
   have hq:i/2<len:=by omega
   obtain ⟨_,hlen,hcell⟩:=World.cells?_some (hf (i/2) (by omega)).1;have hc:=hcell (i%2) (by omega);obtain ⟨v,hv⟩:∃ v,(kCell (f (i/2)))[i%2]?=some v:=⟨_,Array.getElem?_eq_getElem (by rw [show (kCell (f (i/2))).size=2 from rfl]; omega)⟩;have hkv:=qc9 (f:=kCell) (m:=2) (fun _=>rfl) ((List.range len).map f) (i/2) (by simpa using hq) (i%2) v (by rw [List.getElem_map,List.getElem_range]; exact hv);rw [show i/2*2+i%2=i by omega] at hkv;rw [hkv] at hu
   injection hu with hu
   subst hu;rw [Deep.add_add,show i/2*2+i%2=i by omega] at hc
   have hc':w.cell? (a.add i)=some v:=by
    rw [hc,Array.getElem?_toList];exact hv
   refine ⟨a,rfl,?_,hc'⟩;have:=World.block_lt_of_cell? w _ hc'
   rwa [qar] at this
  ·obtain ⟨i,hi,rfl⟩:=List.mem_map.1 hk;exact (hf i (by have:=List.mem_range.1 hi; omega)).2
theorem open_bundle_arg {r:Reach} {b0:Nat} {v:Value} {d:DataW H} {p:List MemPlace} (hv:Value.okWide Tryz.prog w r b0 24 v) (h:DataW.Trod enc Tryz.prog w base spare held 24 v d p) :
  ∃ (D:Bs) (num:Int) (ks:List (Bs × Bs)) (A:Option Addr) (c:Nat),v=.agg #[.string (bs D),.int .i64 num,.slice A ks.length c]∧Rd w w.heap.size A (rowsV kCell ks)∧FitK ks∧D.length≤maxLen:=by
 have c5:Tryz.prog.cellsOf 24=3:=by kernel_rfl
 obtain ⟨cs,rfl,hsz⟩:=okWide_struct Tryz.underlying24 hv;obtain ⟨fuel,hf⟩:=h;have hl:cs.toList.length=3:=by rw [← c5]; exact hsz
 obtain ⟨xs,n,_,hx,_,hlen,hf⟩:=DataW.trod_struct Tryz.underlying24 (show DataW.trod enc Tryz.prog w base spare held fuel 24 cs.toList=some (d,p) from hf);generalize hcs:cs.toList=l at hl hf
 match xs,hlen,l,hl with
 | [y0,y1,y2],_,[v0,v1,v2],_ =>
  have c0:Tryz.prog.cellsOf 9=1:=by kernel_rfl
  have c1:Tryz.prog.cellsOf 3=1:=by kernel_rfl
  have c2:Tryz.prog.cellsOf 22=1:=by kernel_rfl
  have g0:=hf 0 _ rfl;have g1:=hf 1 _ rfl;have g2:=hf 2 _ rfl;simp [c0,c1,c2] at g0 g1 g2;obtain ⟨s0,e0,-,w0⟩:=DataW.trod_string Tryz.underlying9 g0;obtain ⟨n1,e1,-,w1⟩:=DataW.trod_int Tryz.underlying3 g1;obtain ⟨A,c,l,e2,hr,hfit⟩:=open_jwks g2
  injection e0 with e0
  injection e1 with e1
  injection e2 with e2
  subst e0 e1 e2;have e':cs=#[.string s0,.int .i64 n1,.slice A l.length c]:=Array.ext' hcs;subst e';exact ⟨s0.data.toList,n1,l,A,c,by rw [bs_self],hr,hfit,by simpa using w0⟩
end
end Go.Proofs.YtlkikjeccamheaaGreatDoor.Js
namespace Go.Proofs.YtlkikjeccamheaaGreatDoor.jwkReads
set_option linter.unusedSimpArgs false
set_option linter.unusedVariables false
open Go.ChangeShapes Go.WideShapes Go.ChangeAt Go.RowKit Go.Joins Sh Js
set_option maxRecDepth 100000 in
theorem lifted (os:Os) (started:os.Started) (H:Type) (enc:TypeId × Value→H) :
  ReturnsInHanded {} Tryz.checked os 4 .any (fun w args=>(Rows.jwkReadsSpec.pre enc Tryz.prog Tryz.f4 [] false w args∧laidMetH Tryz.prog laidL3 w)∧sizedMet enc Tryz.prog Tryz.f4 (OpenSpec.ofChange Rows.jwkReadsSpec) false w args)
   (Rows.jwkReadsSpec.post enc Tryz.prog Tryz.f4 false true false false):=by
 refine returnsInHanded_of_change_and (C:=Tryz.checked) (X:=fun w _=>laidMetH Tryz.prog laidL3 w) (fun _ _ _ hh h=>h.of_heap hh) own started (by kernel_rfl) Tryz.func4
  (ChangeSpec.witness_shaped (enc:=enc) (C:=Tryz.checked) (os:=os) (X:=fun w _=>laidMetH Tryz.prog laidL3 w) false (World.laidAll Tryz.prog os laidL3) #[.string ⟨#[]⟩] 8 (World.laidAll_os _ _ _) (World.shaped_of_ZipB (by kernel_rfl) (by kernel_rfl)) (by kernel_rfl) (by kernel_rfl) (by kernel_rfl) (door_met3 os _)) ?_
 intro W base args ds gs before hval0 hW _ _ hL _;have hval:∀ (j:Nat) t v,Tryz.f4.params[j]?=some t→args[j]?=some v→Value.okWide Tryz.prog W .any base t v:=hval0;have hW':=hW;obtain ⟨p,q,hA0,hV,rfl,hfz,hnd⟩:=hW;have hA:DataW.TrodAll enc Tryz.prog W 0 (fun _=>true) true Tryz.f4.params.toList args.toList ds p:=hA0;rw [Tryz.params4] at hA hval;have hG:=tab_of_laid3 hL;obtain ⟨v0,d0,rfl,rfl,h0⟩:=trodAll_one hA;obtain ⟨rfl,rfl⟩:=trodVars_none hV;have h0k:=h0;obtain ⟨s,rfl,_,rfl,m1⟩:=ChangeMaps.open_string Tryz.underlying9 (hval 0 9 v0 rfl rfl) h0;clear hA0 hval0;simp only [List.append_nil] at hW';have hc:=jwkReads_any s.data.toList W (by have h:=m1; unfold maxLen at h; have h2:s.data.toList.length=s.size:=rfl; omega) hG;rw [bs_self] at hc;refine (show Calls _ _ #[.string s] W _ from hc).mono fun e W' ⟨he,hb⟩=>?_;subst he
 exact ⟨_,rfl,post_of_below (pa:=[]) (pv:=[]) hW' (fun _ _ _=>trodAll_mk1 (shut_bool Tryz.underlying4 _))
  (fun sp hsp=>trodAll_mk1 (stays laidOut (by kernel_rfl) (of_decide_eq_true (by kernel_rfl)) h0k hb (fun x hx=>by simp at hx) (fun x hx=>by simp at hx)))
  (fun _ _=>rfl) (by simp) hb (ok_one (by kernel_rfl) rfl (okWide_bool_mk Tryz.underlying4 _))⟩
theorem row_holds:Rows.JwkReadsSaid :=
 OpenClaim.holds_of_wide 4 Tryz.f4 rfl rfl rfl rfl rfl rfl rfl ⟨rfl,rfl,rfl,rfl,rfl⟩ rfl rfl rfl rfl rfl (by kernel_rfl) Tryz.func4 (by kernel_rfl)
  (of_decide_eq_true (by kernel_rfl)) (by unfold Func.isWrapper; first | (rw [if_pos (by decide +kernel)]; kernel_rfl) | (rw [if_neg (by decide +kernel)]; exact ⟨rfl,rfl⟩))
  (fun os started H enc _=>lifted os started H enc)
theorem holds:Rows.JwkReadsCardSaid :=
 Claim7.holds_tied_plain_at .later [] [.data,.data,.pinned] true (true, "babb35e591ff3c4d261a651cc7c18cc5d12451f712e2205b77aee1d6ceea5473") false
  row_holds (fun _ h=>by cases h) (by kernel_rfl) (fun _ h=>by cases h) jwkReads_row_tie rfl ⟨rfl,rfl⟩ (by kernel_rfl) rfl
  (fun f fn hf hfn=>by
   obtain rfl:f=4:=Option.some.inj ((show Tryz.prog.funcNamed "brevet/brevetlaw11.JwkReads" = some 4 by kernel_rfl).symm.trans hf) |>.symm;obtain rfl:fn=Tryz.f4:=(Option.some.inj (Tryz.func4.symm.trans hfn)).symm
   exact ⟨by kernel_rfl,fun j t ht=>by
    rw [Tryz.params4] at ht;have hm:t ∈ [9]:=by simpa using Array.mem_of_getElem? ht
    have hall:([9].all fun u=>!Tryz.prog.wantsStandIn u)=true:=by kernel_rfl
    exact (show Tryz.prog.wantsStandIn t=false by simpa using List.all_eq_true.1 hall t hm)⟩)
  (by kernel_rfl)
#print axioms holds
end Go.Proofs.YtlkikjeccamheaaGreatDoor.jwkReads
