/-
  PROVED: 'brevetlaw19.KeysMake': for every seed and every time a key is made just as the document says, or refused. The listed variable (the words of the steps) is tied to the program's text by the card.
-/
import Derived.Laws.StructEq
import Derived.Deep.DeepCutAuto
import Derived.Test.YtcbkaaodmjphdaaDoorCards
import Derived.Test.YtcbkaaodmjphdaaDoorTie
import Derived.SevenTiedAt
import Derived.ProofKit
import Derived.OpenShut
import Derived.Test.YtcbkaaodmjphdaaDoorJ5
import Derived.Test.YtcbkaaodmjphdaaDoorJ1
namespace Go.Proofs.YtcbkaaodmjphdaaDoor
set_option linter.unusedSimpArgs false
set_option linter.unusedVariables false
set_option maxRecDepth 100000
set_option maxHeartbeats 4000000
open Go.RowKit
theorem rmake_any (b:List UInt8) (hl:b.length≤1000) (now:Int) (A:Option Addr) (c:Nat) (w:World) (hr:Rd w w.heap.size A (bytesV b)) (hc:b.length≤c) :
  Calls Tryd.prog 5 #[.slice A b.length c,.int .i64 now] w (fun e w'=>e=.returned (.tuple #[.agg (keyCells (makeK b now)),.bool (makeOk b now)])∧Below w.heap.size w w'):=by
 have hu:=Tryd.underlying24;have hus:=Tryd.underlying9;have hub:=Tryd.underlying22;have hu8:=Tryd.underlying5;have hbn:=Blk.new w 24 #[.string ⟨#[]⟩,.string ⟨#[]⟩,.int .i64 0,.int .i64 0];obtain ⟨W0,hW0⟩:∃ W0,W0=w.alloc (.cells #[.string ⟨#[]⟩,.string ⟨#[]⟩,.int .i64 0,.int .i64 0] 24):=⟨_,rfl⟩;rw [← hW0] at hbn;have hb0:Below w.heap.size w W0:=by rw [hW0]; exact (Below.refl _ _).alloc (Nat.le_refl _) _
 have HW0:=zY hW0;have HBW:=zY (Blk.new w 24 #[.string ⟨#[]⟩,.string ⟨#[]⟩,.int .i64 0,.int .i64 0]);have HB00:=zY (show Below w.heap.size w (w.alloc (.cells #[.string ⟨#[]⟩,.string ⟨#[]⟩,.int .i64 0,.int .i64 0] 24)) from (Below.refl _ _).alloc (Nat.le_refl _) _);have HB0:=zY hb0;have HBN:=zY hbn;have HR:=zY (qdj hr hb0);have HR0:=zY hr;have hwo:w.heap.size<W0.heap.size:=by rw [hW0]; simp
 have HWO:=zY hwo;obtain ⟨n,hn⟩:=eX (b.length)
 by_cases h32:b.length=32
 ·have CP:=zY (show ∀ u,Rd u u.heap.size A (bytesV b)→Calls Tryd.prog 10 #[.slice A 32 c] u (BnPost (pubL (keyN b)) u) from fun u h=>rpublic_any b h32 (digS_len b) A c u h (by omega));have hUb:bnV (pubL (keyN b))=bytesV (ptB (keyN b)):=by rw [ptB,bnV_bsN (pubL_dg _)]
  obtain ⟨U,hU⟩:=eX (ptB (keyN b));have lU:U.length=32:=by rw [hU,ptB_len]
  have CN:=zY (show ∀ u A2 c2,Rd u u.heap.size A2 (bytesV U)→32≤c2→Calls Tryd.prog 9 #[.slice A2 32 c2] u (fun e w'=>e=.returned (.string (nameS U))∧Below u.heap.size u w') from fun u A2 c2 h h2=>by
   have:=rname_any U (by omega) A2 c2 u h (by omega) (digS32_len U);rw [lU] at this;exact this)
  rw [h32];have HUBU:=zY (show bnV (pubL (keyN b))=bytesV U by rw [hUb,hU]);have HUB:=zY hUb;have HU:=zY hU;have H32:=zY h32;obtain ⟨SD,hSD⟩:∃ s:ByteArray,s=⟨b.toArray⟩:=⟨_,rfl⟩;have HSD:=zY hSD;obtain ⟨NS,hNS⟩:=eX (nameS U);rw [← hNS] at CN;have HKK:=zY (show mkKey b now=⟨NS,SD,1,now⟩ by rw [mkKey,hNS,hU,hSD]);clear hUb hU lU h32 hn hl hr hc hW0 hb0 hbn hSD hNS hwo;go_enter Tryd.func5,Tryd.ntmps5
  by_cases hlo:now<0
  ·have hd1:decide (now<0)=true:=by simp; omega
   have HOK:=zY (show makeOk b now=false by simp [makeOk,H32.out]; omega);go_wp2_with (refine qad (cells:=keyCells zKey) HBW.out rfl rfl rfl rfl qax rfl (qaw _) ?_; intro w3 hb3 hw3; have HB3:=zY hb3; have HW3:=zY hw3; clear hb3 hw3);refine bodyPost_ret (qar (P:=Tryd.prog) rfl rfl HB3.out hu rfl qax) rfl ⟨?_,HW3.out.below HB00.out (Nat.le_refl _) HB00.out.size⟩;rw [makeK,if_neg (by rw [HOK.out]; simp),HOK.out];rfl
  ·by_cases hhi:now > 1099511627776
   ·have hd1:decide (now<0)=false:=by simp; omega
    have hd2:decide (1099511627776<now)=true:=by simp; omega
    have hd3:decide (now > 1099511627776)=true:=by simp; omega
    have HOK:=zY (show makeOk b now=false by simp [makeOk,H32.out]; omega);go_wp2_with (refine qad (cells:=keyCells zKey) HBW.out rfl rfl rfl rfl qax rfl (qaw _) ?_; intro w3 hb3 hw3; have HB3:=zY hb3; have HW3:=zY hw3; clear hb3 hw3);refine bodyPost_ret (qar (P:=Tryd.prog) rfl rfl HB3.out hu rfl qax) rfl ⟨?_,HW3.out.below HB00.out (Nat.le_refl _) HB00.out.size⟩;rw [makeK,if_neg (by rw [HOK.out]; simp),HOK.out];rfl
   ·have hd1:decide (now<0)=false:=by simp; omega
    have hd2:decide (1099511627776<now)=false:=by simp; omega
    have hd3:decide (now > 1099511627776)=false:=by simp; omega
    have HOK:=zY (show makeOk b now=true by simp [makeOk,H32.out]; omega);go_wp2_with fail;rw [← HW0.out];have HC0:Below w.heap.size w W0.drew:=HB0.out.drew;have HI0:Blk W0.drew w.heap.size 24 #[.string ⟨#[]⟩,.string ⟨#[]⟩,.int .i64 0,.int .i64 0]:=HBN.out;clear HB0 HBN HR hd1 hd2 hd3
    refine qaG (fun u=>Below w.heap.size w u) (fun | false=>(fun u=>Blk u w.heap.size 24 #[.string ⟨#[]⟩,.string ⟨#[]⟩,.int .i64 0,.int .i64 0]) | true=>(fun _=>True)) (fun | false,i=>i == 7 | true,_=>false)
     [fun z _=>z 0=.slice A 32 c,
      fun z u=>(fun v u=>∃ A2 c2,v=.slice A2 32 c2∧32≤c2∧Rd u u.heap.size A2 (bytesV U)) (z 1) u,
      fun z _=>z 2=.string NS,
      fun z _=>z 3=.slice A 32 c,
      fun z _=>z 4=.string SD,
      fun z _=>z 5=.int .i64 now,
      fun z _=>z 6=.agg (keyCells ⟨NS,SD,1,now⟩),
      fun z u=>Blk u w.heap.size 24 (keyCells ⟨NS,SD,1,now⟩),
      fun z _=>z 8=.bool true]
     [Eq,fun u u'=>Below u.heap.size u u',fun u u'=>Below u.heap.size u u',Eq,Eq,Eq,Eq,fun _ _=>True,Eq]
     (fun i k=>(i == 7 && k == 1)) [(0,some 18),(1,some 19),(2,some 20),(3,some 21),(4,some 22),(5,some 23),(6,some 24),(7,none),(8,some 5)] (by kernel_rfl) (by kernel_rfl) rfl (fun _=>rfl) ?_ ?_ ?_ ?_ ?_ ?_
    ·exact HC0
    ·intro m; cases m; exact HI0; exact trivial
    ·intro m; cases m
     ·refine ⟨?_,.inr (fun _ _ h h0=>h0.below h h0.lt),.inr (fun _ _ h h0=>h0.below h h0.lt),?_,?_,?_,?_,.inl rfl,?_,trivial⟩ <;> exact .inr fun _ _ h h0=>h▸h0
     ·refine ⟨?_,?_,?_,?_,?_,?_,?_,?_,?_,trivial⟩ <;> first | exact .inr fun _ _ h h0=>h▸h0 | exact .inr fun _ _ _ h=>h
    ·refine ⟨⟨.inl rfl,?_,?_,?_,?_,?_,?_,?_,?_,trivial⟩,⟨?_,.inl rfl,?_,?_,?_,?_,?_,?_,?_,trivial⟩,⟨?_,.inr (.inr (.inr (fun _ _ _ _ h ⟨a,b,e,l,o⟩=>⟨a,b,e,l,qdj o h⟩))),.inl rfl,?_,?_,?_,?_,?_,?_,trivial⟩,⟨?_,?_,?_,.inl rfl,?_,?_,?_,?_,?_,trivial⟩,⟨?_,?_,?_,?_,.inl rfl,?_,?_,?_,?_,trivial⟩,⟨?_,?_,?_,?_,?_,.inl rfl,?_,?_,?_,trivial⟩,⟨?_,?_,?_,?_,?_,?_,.inl rfl,?_,?_,trivial⟩,⟨?_,.inr (.inl rfl),?_,?_,?_,?_,?_,.inl rfl,?_,trivial⟩,⟨?_,?_,?_,?_,?_,?_,?_,?_,.inl rfl,trivial⟩,trivial⟩ <;> first | exact .inr (.inr (.inl rfl)) | exact .inr (.inr (.inr fun _ _ _ _ _ h=>h)) | exact .inr (.inr (.inr fun _ _ _ _ h h0=>by cases h; exact h0))
    ·refine ⟨?_,?_,?_,?_,?_,?_,?_,?_,?_,trivial⟩
     ·refine qaf [] (fun _=>rfl) rfl ?_;intro w1 vals hC1 hi0 hf E hE;have hI1:(fun u=>Blk u w.heap.size 24 #[.string ⟨#[]⟩,.string ⟨#[]⟩,.int .i64 0,.int .i64 0]) w1:=hi0 false rfl
      try dsimp only at hI1
      clear hi0;clear hf;simp only [sP] at hE ⊢;go_wp2;exact .mk (hE _ _ rfl hC1 rfl)
     ·refine qaf [(0,some 18)] (fun _=>rfl) rfl ?_;intro w1 vals hC1 hi0 hf E hE;have hI1:(fun u=>Blk u w.heap.size 24 #[.string ⟨#[]⟩,.string ⟨#[]⟩,.int .i64 0,.int .i64 0]) w1:=hi0 false rfl
      try dsimp only at hI1
      clear hi0;have f0:vals 0=_:=hf 0 rfl
      try dsimp only at f0
      clear hf;simp only [sP,f0] at hE ⊢;clear f0;go_wp2_with fail;refine qaa (CP.out _ ((HR0.out.below hC1).mono hC1.size)) ?_;rintro e w2 ⟨A2,c2,rfl,hc2,hr2,hb2⟩;rw [HUBU.out] at hr2;go_wp2_with fail;exact .mk (hE _ _ ⟨A2,c2,rfl,hc2,hr2⟩ (hC1.trans (hb2.mono hC1.size)) hb2)
     ·refine qaf [(1,some 19),(1,some 19)] (fun _=>rfl) rfl ?_;intro w1 vals hC1 hi0 hf E hE;have hI1:(fun u=>Blk u w.heap.size 24 #[.string ⟨#[]⟩,.string ⟨#[]⟩,.int .i64 0,.int .i64 0]) w1:=hi0 false rfl
      try dsimp only at hI1
      clear hi0;have f1:(fun v u=>∃ A2 c2,v=.slice A2 32 c2∧32≤c2∧Rd u u.heap.size A2 (bytesV U)) (vals 1) w1:=hf 1 rfl
      try dsimp only at f1
      clear hf;obtain ⟨A2,c2,hx1,hc2,hr2⟩:=f1;simp only [sP,hx1] at hE ⊢;clear hx1;go_wp2_with fail;refine qaa (CN.out _ _ _ hr2 hc2) ?_;rintro e w2 ⟨rfl,hb2⟩;go_wp2_with fail;exact .mk (hE _ _ rfl (hC1.trans (hb2.mono hC1.size)) hb2)
     ·refine qaf [] (fun _=>rfl) rfl ?_;intro w1 vals hC1 hi0 hf E hE;have hI1:(fun u=>Blk u w.heap.size 24 #[.string ⟨#[]⟩,.string ⟨#[]⟩,.int .i64 0,.int .i64 0]) w1:=hi0 false rfl
      try dsimp only at hI1
      clear hi0;clear hf;simp only [sP] at hE ⊢;go_wp2;exact .mk (hE _ _ rfl hC1 rfl)
     ·refine qaf [(3,some 21)] (fun _=>rfl) rfl ?_;intro w1 vals hC1 hi0 hf E hE;have hI1:(fun u=>Blk u w.heap.size 24 #[.string ⟨#[]⟩,.string ⟨#[]⟩,.int .i64 0,.int .i64 0]) w1:=hi0 false rfl
      try dsimp only at hI1
      clear hi0;have f3:vals 3=_:=hf 3 rfl
      try dsimp only at f3
      clear hf;simp only [sP,f3] at hE ⊢;clear f3;refine qaY ((HR0.out.below hC1).mono hC1.size) hub hu8 hus rfl rfl (by rw [H32.out]; rfl) ?_;rw [← HSD.out];go_wp2_with fail;exact .mk (hE _ _ rfl hC1 rfl)
     ·refine qaf [] (fun _=>rfl) rfl ?_;intro w1 vals hC1 hi0 hf E hE;have hI1:(fun u=>Blk u w.heap.size 24 #[.string ⟨#[]⟩,.string ⟨#[]⟩,.int .i64 0,.int .i64 0]) w1:=hi0 false rfl
      try dsimp only at hI1
      clear hi0;clear hf;simp only [sP] at hE ⊢;go_wp2;exact .mk (hE _ _ rfl hC1 rfl)
     ·refine qaf [(2,some 20),(4,some 22),(5,some 23)] (fun _=>rfl) rfl ?_;intro w1 vals hC1 hi0 hf E hE;have hI1:(fun u=>Blk u w.heap.size 24 #[.string ⟨#[]⟩,.string ⟨#[]⟩,.int .i64 0,.int .i64 0]) w1:=hi0 false rfl
      try dsimp only at hI1
      clear hi0;have f2:vals 2=_:=hf 2 rfl;have f4:vals 4=_:=hf 4 rfl;have f5:vals 5=_:=hf 5 rfl
      try dsimp only at f2 f4 f5
      clear hf;simp only [sP,f2,f4,f5] at hE ⊢;clear f2 f4 f5;go_wp2;exact .mk (hE _ _ rfl hC1 rfl)
     ·refine qaf [(6,some 24),(2,some 20),(0,some 18),(1,some 19),(2,some 20),(3,some 21),(4,some 22),(5,some 23),(6,some 24)] (fun _=>rfl) rfl ?_;intro w1 vals hC1 hi0 hf E hE;have hI1:(fun u=>Blk u w.heap.size 24 #[.string ⟨#[]⟩,.string ⟨#[]⟩,.int .i64 0,.int .i64 0]) w1:=hi0 false rfl
      try dsimp only at hI1
      clear hi0;have f0:vals 0=_:=hf 0 rfl;have f1:(fun v u=>∃ A2 c2,v=.slice A2 32 c2∧32≤c2∧Rd u u.heap.size A2 (bytesV U)) (vals 1) w1:=hf 1 rfl;have f2:vals 2=_:=hf 2 rfl;have f3:vals 3=_:=hf 3 rfl;have f4:vals 4=_:=hf 4 rfl;have f5:vals 5=_:=hf 5 rfl;have f6:vals 6=_:=hf 6 rfl
      try dsimp only at f0 f1 f2 f3 f4 f5 f6
      clear hf;simp only [sP,f0,f2,f3,f4,f5,f6] at hE ⊢;clear f0 f2 f3 f4 f5 f6;refine qad hI1 rfl rfl rfl rfl qax rfl (qaw _) ?_;intro w3 hb3 hw3;go_wp2_with fail;exact .mk (hE undef _ hb3 (hw3.below hC1 (Nat.le_refl _) hC1.size) trivial)
     ·refine qaf [(7,none),(0,some 18),(1,some 19),(2,some 20),(3,some 21),(4,some 22),(5,some 23),(6,some 24),(7,none)] (fun _=>rfl) rfl ?_;intro w1 vals hC1 hi0 hf E hE;clear hi0;have f0:vals 0=_:=hf 0 rfl;have f2:vals 2=_:=hf 2 rfl;have f3:vals 3=_:=hf 3 rfl;have f4:vals 4=_:=hf 4 rfl;have f5:vals 5=_:=hf 5 rfl;have f6:vals 6=_:=hf 6 rfl;have f7:(fun z u=>Blk u w.heap.size 24 (keyCells ⟨NS,SD,1,now⟩)) vals w1:=hf 7 rfl
      try dsimp only at f0 f2 f3 f4 f5 f6 f7
      clear hf;simp only [sP,f0,f2,f3,f4,f5,f6] at hE ⊢;clear f0 f2 f3 f4 f5 f6;go_wp2;exact .mk (hE _ _ rfl hC1 rfl)
    intro w1 vals hC1 hf;have f0:vals 0=_:=hf 0 (by decide) rfl;have f2:vals 2=_:=hf 2 (by decide) rfl;have f3:vals 3=_:=hf 3 (by decide) rfl;have f4:vals 4=_:=hf 4 (by decide) rfl;have f5:vals 5=_:=hf 5 (by decide) rfl;have f6:vals 6=_:=hf 6 (by decide) rfl;have f7:(fun z u=>Blk u w.heap.size 24 (keyCells ⟨NS,SD,1,now⟩)) vals w1:=hf 7 (by decide) rfl;have f8:vals 8=_:=hf 8 (by decide) rfl
    try dsimp only at f0 f2 f3 f4 f5 f6 f7 f8
    clear hf;simp only [sP,f0,f2,f3,f4,f5,f6,f8];clear f0 f2 f3 f4 f5 f6 f8;generalize vals 1=x1 at *;have HF:=zY hC1;have HB6:=zY f7;clear HC0 HI0 hC1 f7;go_wp2_with fail;refine bodyPost_ret (qar (P:=Tryd.prog) rfl rfl HB6.out hu rfl qax) rfl ⟨?_,HF.out⟩;rw [makeK,if_pos HOK.out,HKK.out,HOK.out];rfl
 ·have h32':¬ (n:Int)=32:=by omega
  have HOK:=zY (show makeOk b now=false by simp [makeOk,h32]);rw [← hn];clear hn hl hr hc hW0 hb0 hbn h32 hwo;go_enter Tryd.func5,Tryd.ntmps5;go_wp2_with (refine qad (cells:=keyCells zKey) HBW.out rfl rfl rfl rfl qax rfl (qaw _) ?_; intro w3 hb3 hw3; have HB3:=zY hb3; have HW3:=zY hw3; clear hb3 hw3);refine bodyPost_ret (qar (P:=Tryd.prog) rfl rfl HB3.out hu rfl qax) rfl ⟨?_,HW3.out.below HB00.out (Nat.le_refl _) HB00.out.size⟩;rw [makeK,if_neg (by rw [HOK.out]; simp),HOK.out];rfl
theorem eql_key (k:KeyD) (w:World):(binOp .eql 24 (.agg (keyCells k)) (.agg (keyCells k))).run Tryd.prog w=.ok (.bool true) w:=by
 have p0:∀ u:World,(part 9 (keyCells k) 0).run Tryd.prog u=.ok (.string k.kid) u:=fun u=>by kernel_rfl
 have p1:∀ u:World,(part 9 (keyCells k) 1).run Tryd.prog u=.ok (.string k.seed) u:=fun u=>by kernel_rfl
 have p2:∀ u:World,(part 3 (keyCells k) 2).run Tryd.prog u=.ok (.int .i64 k.state) u:=fun u=>by kernel_rfl
 have p3:∀ u:World,(part 3 (keyCells k) 3).run Tryd.prog u=.ok (.int .i64 k.since) u:=fun u=>by kernel_rfl
 have hs:=Tryd.underlying9;have hi:=Tryd.underlying3;have hf:Tryd.prog.fieldsOf 24=#[{ name := "Kid",type:=9,offset:=0,embedded:=false,tag := "",pkgPath := "",byteOffset:=0 },{ name := "Seed",type:=9,offset:=1,embedded:=false,tag := "",pkgPath := "",byteOffset:=16 },{ name := "State",type:=3,offset:=2,embedded:=false,tag := "",pkgPath := "",byteOffset:=32 },{ name := "Since",type:=3,offset:=3,embedded:=false,tag := "",pkgPath := "",byteOffset:=40 }]:=by kernel_rfl
 rw [run_eql_struct,run_equalIn_struct w 9999 _ _ _ (by kernel_rfl) (by kernel_rfl),hf];have s1:∀ (d:Nat) (s:ByteArray),(Op.equalIn (d+1) 9 (.string s) (.string s)).run Tryd.prog w=.ok true w:=fun d s=>by rw [run_equalIn_string w d _ s s hs]; simp
 have s2:∀ (d:Nat) (n:Int),(Op.equalIn (d+1) 3 (.int .i64 n) (.int .i64 n)).run Tryd.prog w=.ok true w:=fun d n=>by rw [run_equalIn_int w d _ _ _ n n hi]; simp
 have e1:=fun s=>s1 9998 s;have e2:=fun n=>s2 9998 n;simp only [Nat.reduceAdd] at e1 e2;simp [Op.eqFields,Sem.run_bind,p0,p1,p2,p3,Result.andThen,e1,e2]
theorem keysMake_any (l:List UInt8) (now:Int) (A:Option Addr) (ca:Nat) (w:World) (rp:Rd w w.heap.size A (bytesV l)) (hca:l.length≤ca) (hcm:ca≤9223372036854775807) (hG:Sh.TabG w) :
  Calls Tryd.prog 3 #[.slice A l.length ca,.int .i64 now] w (fun e w'=>e=.returned (.bool true)∧Below w.heap.size w w'):=by
 have hu:=Tryd.underlying24;obtain ⟨n,hn⟩:=eX (l.length);obtain ⟨p,hp⟩:=eX (l.take 40);obtain ⟨np,hnp⟩:=eX (p.length);have hnp2:np=min 40 n:=by rw [hnp,hp,List.length_take,hn]
 have lp:p.length≤200:=by rw [← hnp]; omega
 have hpc:p.length≤ca:=by rw [← hnp]; omega
 have rp0:Rd w w.heap.size A (bytesV p):=by rw [hp,bytesV,List.map_take]; exact qcl rp 40
 obtain ⟨K,hK⟩:=eX (makeK p now);obtain ⟨E,hE⟩:=eX (makeE p now);obtain ⟨okb,hokb⟩:=eX (makeOk p now)
 have CM:=zY (show ∀ u,Below w.heap.size w u→Calls Tryd.prog 4 #[.slice A np ca,.int .i64 now] u (fun e w'=>e=.returned (.tuple #[.agg (keyCells K),.int .i64 (E:Int)])∧Below u.heap.size u w') from fun u h=>by
  rw [hnp,hK,hE]; exact make_any p (by omega) now A ca u ((rp0.below h).mono h.size) hpc (hG.below h hG.size))
 have CR:=zY (show ∀ u,Below w.heap.size w u→Calls Tryd.prog 5 #[.slice A np ca,.int .i64 now] u (fun e w'=>e=.returned (.tuple #[.agg (keyCells K),.bool okb])∧Below u.heap.size u w') from fun u h=>by
  rw [hnp,hK,hokb]; exact rmake_any p (by omega) now A ca u ((rp0.below h).mono h.size) hpc)
 have CL:=zY (show ∀ u,Below w.heap.size w u→Calls Tryd.prog 6 #[] u (fun e w'=>e=.returned (.bool true)∧Below u.heap.size u w') from fun u h=>klives_any u (hG.below h hG.size));have HEE:=zY (show (E:Int)=if okb=true then 0 else 1 by rw [hE,makeE,← hokb]; split <;> rfl);have HKZ:=zY (show okb=false→K.state=0 from fun h=>by rw [hK,makeK,← hokb,h]; rfl);rw [← hn];rw [← hn] at hca;clear hn hp hnp lp hpc rp rp0 hG hK hE hokb;have hn63:(n:Int)≤9223372036854775807:=by omega
 have hca40:40<n→(40:Int)≤(ca:Int):=fun h=>by omega
 clear hcm hca;go_enter Tryd.func3,Tryd.ntmps3
 go_upto_if 11 with (fail)
 go_cut [0] (fun s wx=>s=.slice A np ca∧w=wx)
 case first =>
  by_cases h40:40<n
  ·have h40':(40:Int)<n:=by omega
   have hc40:=hca40 h40;obtain rfl:np=40:=by omega
   clear hca40 h40 hnp2;go_wp2_with fail
   go_meet
   exact ⟨rfl,rfl⟩
  ·have h40':¬ (40:Int)<n:=by omega
   obtain rfl:np=n:=by omega
   clear hca40 h40 hnp2;go_wp2_with fail
   go_meet
   exact ⟨rfl,rfl⟩
 case rest =>
 obtain ⟨rfl,rfl⟩:=hcut;clear hnp2 hca40;go_wp2_with fail;refine qaa (CM.out _ (Below.refl _ _)) ?_;rintro e w1 ⟨rfl,hb1⟩;have HB1:=zY hb1;clear hb1 CM;have hbn:=Blk.new w1 24 #[.string ⟨#[]⟩,.string ⟨#[]⟩,.int .i64 0,.int .i64 0];go_wp2_with (refine qad (cells:=keyCells K) hbn rfl rfl rfl rfl qax rfl (qaw _) ?_; intro w2 hb2 hw2; have HB2:=zY hb2; have HW2:=zY hw2; clear hb2 hw2);have hbel2:Below w1.heap.size w1 w2:=HW2.out.below ((Below.refl _ _).alloc (Nat.le_refl _) _) (Nat.le_refl _) (by simp);replace HB1:=zY (HB1.out.trans (hbel2.mono HB1.out.size));clear hbel2 HW2 hbn;refine qaa (CR.out _ HB1.out) ?_;rintro e w3 ⟨rfl,hb3⟩;replace HB1:=zY (HB1.out.trans (hb3.mono HB1.out.size));replace HB2:=zY (HB2.out.below hb3 HB2.out.lt);clear hb3 CR;have hbn:=Blk.new w3 24 #[.string ⟨#[]⟩,.string ⟨#[]⟩,.int .i64 0,.int .i64 0];have heq:∀ u:World,(binOp .eql 24 (.agg (keyCells K)) (.agg (keyCells K))).run Tryd.prog u=.ok (.bool true) u:=fun u=>eql_key K u
 cases okb with
 | false =>
  have hE1:(E:Int)=1:=by rw [HEE.out]; rfl
  have hst:=HKZ.out rfl;rw [hE1];clear HEE HKZ hE1 heq;go_wp2_with (refine qad (cells:=keyCells K) hbn rfl rfl rfl rfl qax rfl (qaw _) ?_; intro w4 hb4 hw4; have HW4:=zY hw4; clear hb4 hw4; have hbel4:=zY (HW4.out.below ((Below.refl _ _).alloc (Nat.le_refl _) _) (Nat.le_refl _) (by simp):Below w3.heap.size w3 w4); have d2:w4.cell? ⟨w1.heap.size,2,none⟩=some (.int .i64 0):=by rw [← hst]; exact (HB2.out.below hbel4.out HB2.out.lt).cell 2);have h4:=zY (HB1.out.trans (hbel4.out.mono HB1.out.size));refine qaa (CL.out _ h4.out) ?_;rintro e w5 ⟨rfl,hb5⟩;have HF:=zY (h4.out.trans (hb5.mono h4.out.size));clear hb5 d2;go_wp2_with fail;go_ret;exact ⟨rfl,HF.out⟩
 | true =>
  have hE1:(E:Int)=0:=by rw [HEE.out]; rfl
  rw [hE1];clear HEE HKZ hE1
  go_wp2_with (first
   | (refine qad (cells:=keyCells K) hbn rfl rfl rfl rfl qax rfl (qaw _) ?_; intro w4 hb4 hw4; have HW4:=zY hw4; clear hw4; have hbel4:=zY (HW4.out.below ((Below.refl _ _).alloc (Nat.le_refl _) _) (Nat.le_refl _) (by simp):Below w3.heap.size w3 w4); have hb2':=HB2.out.below hbel4.out HB2.out.lt)
   | (refine qab hb2' rfl rfl rfl hu rfl qax ?_)
   | (refine qab hb4 rfl rfl rfl hu rfl qax ?_))
  have h4:=zY (HB1.out.trans (hbel4.out.mono HB1.out.size));refine qaa (CL.out _ h4.out) ?_;rintro e w5 ⟨rfl,hb5⟩;have HF:=zY (h4.out.trans (hb5.mono h4.out.size));clear hb5 hb4 hb2';go_wp2_with fail;go_ret;exact ⟨rfl,HF.out⟩
end Go.Proofs.YtcbkaaodmjphdaaDoor
namespace Go.Proofs.YtcbkaaodmjphdaaDoor.keysMake
set_option linter.unusedSimpArgs false
set_option linter.unusedVariables false
open Go.ChangeShapes Go.WideShapes Go.ChangeAt Go.RowKit Go.Joins Sh
set_option maxRecDepth 100000 in
theorem lifted (os:Os) (started:os.Started) (H:Type) (enc:TypeId × Value→H) :
  ReturnsInHanded {} Tryd.checked os 3 .any (fun w args=>(Rows.keysMakeSpec.pre enc Tryd.prog Tryd.f3 [] false w args∧laidMetH Tryd.prog laidL w)∧sizedMet enc Tryd.prog Tryd.f3 (OpenSpec.ofChange Rows.keysMakeSpec) false w args)
   (Rows.keysMakeSpec.post enc Tryd.prog Tryd.f3 false true false false):=by
 refine returnsInHanded_of_change_and (C:=Tryd.checked) (X:=fun w _=>laidMetH Tryd.prog laidL w) (fun _ _ _ hh h=>h.of_heap hh) own started (by kernel_rfl) Tryd.func3
  (ChangeSpec.witness_shaped (enc:=enc) (C:=Tryd.checked) (os:=os) (X:=fun w _=>laidMetH Tryd.prog laidL w) false (World.doorLaid Tryd.prog 400 os) #[.slice none 0 0,.int .i64 0] 8 rfl (World.shaped_of_RefB (by kernel_rfl) (by kernel_rfl)) (by kernel_rfl) (by kernel_rfl) (by kernel_rfl) (door_met os _)) ?_
 intro W base args ds gs before hval0 hW _ _ hL _;have hval:∀ (j:Nat) t v,Tryd.f3.params[j]?=some t→args[j]?=some v→Value.okWide Tryd.prog W .any base t v:=hval0;have hW':=hW;obtain ⟨p,q,hA0,hV,rfl,hfz,hnd⟩:=hW;have hA:DataW.TrodAll enc Tryd.prog W 0 (fun _=>true) true Tryd.f3.params.toList args.toList ds p:=hA0;rw [Tryd.params3] at hA hval;have hG:=tab_of_laid hL;obtain ⟨v0,v1,y0,y1,p0,p1,rfl,rfl,rfl,h0,h1⟩:=trodAll_two hA;obtain ⟨rfl,rfl⟩:=trodVars_none hV;have h0k:=h0;obtain ⟨l1,A1,c1,rfl,rm1,qm1,okm1⟩:=open_bytes_cap (hval 0 22 v0 rfl rfl) h0;obtain ⟨n,rfl,rfl,rfl,hwn⟩:=open_int Tryd.underlying3 (hval 1 3 v1 rfl rfl) h1;clear hA0 hval0;simp only [List.append_nil] at hW';refine (keysMake_any l1 n A1 c1 W rm1 qm1 okm1 hG).mono fun e W' ⟨he,hb⟩=>?_;subst he;have hlt:∀ x ∈ p0,x.block<W.heap.size:=fun x hx=>hW'.lt x (by simpa using hx)
 exact ⟨_,rfl,post_of_below (pa:=p0) (pv:=[]) (by simpa using hW') (fun _ _ _=>trodAll_mk1 (shut_bool Tryd.underlying4 _))
  (fun sp hsp=>by
   have h:=trodAll_mk2 (stays laidOut (by kernel_rfl) (of_decide_eq_true (by kernel_rfl)) h0k hb hlt (fun x hx=>hsp x (by simp [hx]))) (shut_int Tryd.underlying3 hwn);rw [List.append_nil] at h;exact h)
  (fun _ _=>by rfl) (by simp) hb (ok_one (by kernel_rfl) rfl (okWide_bool_mk Tryd.underlying4 _))⟩
theorem row_holds:Rows.KeysMakeSaid :=
 OpenClaim.holds_of_wide 3 Tryd.f3 rfl rfl rfl rfl rfl rfl rfl ⟨rfl,rfl,rfl,rfl,rfl⟩ rfl rfl rfl rfl rfl (by kernel_rfl) Tryd.func3 (by kernel_rfl)
  (of_decide_eq_true (by kernel_rfl)) (by unfold Func.isWrapper; first | (rw [if_pos (by decide +kernel)]; kernel_rfl) | (rw [if_neg (by decide +kernel)]; exact ⟨rfl,rfl⟩))
  (fun os started H enc _=>lifted os started H enc)
theorem holds:Rows.KeysMakeCardSaid :=
 Claim7.holds_tied_plain_at .later [] [.data] true (true, "9695747b6c0788b291a9cc8f0cbe9fa346675b1937a5a161f4b4b214f2d31ae7") false
  row_holds (fun _ h=>by cases h) (by kernel_rfl) (fun _ h=>by cases h) keysMake_row_tie rfl ⟨rfl,rfl⟩ (by kernel_rfl) rfl
  (fun f fn hf hfn=>by
   obtain rfl:f=3:=Option.some.inj ((show Tryd.prog.funcNamed "brevet/brevetlaw19.KeysMake" = some 3 by kernel_rfl).symm.trans hf) |>.symm;obtain rfl:fn=Tryd.f3:=(Option.some.inj (Tryd.func3.symm.trans hfn)).symm
   exact ⟨by kernel_rfl,fun j t ht=>by
    rw [Tryd.params3] at ht;have hm:t ∈ [22,3]:=by simpa using Array.mem_of_getElem? ht
    have hall:([22,3].all fun u=>!Tryd.prog.wantsStandIn u)=true:=by kernel_rfl
    exact (show Tryd.prog.wantsStandIn t=false by simpa using List.all_eq_true.1 hall t hm)⟩)
  (by kernel_rfl)
#print axioms holds
end Go.Proofs.YtcbkaaodmjphdaaDoor.keysMake
