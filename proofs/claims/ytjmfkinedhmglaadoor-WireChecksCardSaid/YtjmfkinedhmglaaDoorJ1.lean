/-
  Joined texts: Sqa Base Laws Box Part Region Guard Det Tail Tailb Sqz Open OpenB Words ShaM ShaX Laid Msg OpenMsg Own Zeros Fld Fw Fa Fs Fl Fm Mw Ml Fi Fe Fq Byt Fb Pwr Fp Fv Rdp Conv.
-/
import Derived.Lib.Hide
import Derived.WalkKit
import Derived.WalkSpells
import Derived.WalkLawsBesides
import Derived.Lib.Strings
import Derived.Maps.AppendAt
import Derived.Deep.Draws
import Derived.Lib.AppendStr
import Derived.Laws.Rows
import Derived.Laws.Tables
import Derived.Lib.SmallJoins
import Derived.Laws.CopyRow
import Derived.Laws.Unary
import Derived.Laws.Bits64
import Derived.Laws.BitsLemmas
import Derived.Orders
import Derived.Test.YtjmfkinedhmglaaDoorRows
import Derived.ProofKit
import Derived.OpenShut
import Derived.SizedLaws
import Derived.SliceStrings
import Derived.LaidMore
import Derived.Stop.Joined
import Derived.Test.YtjmfkinedhmglaaDoorProg
import Derived.BigQuiet
import Derived.Deep.QuietTactic
import Derived.IntWalk
import Derived.Shelf.Bits.Mul64
import Derived.Shelf.Spec.BitsCarry
import Derived.Stop.BytesEq
import Derived.Laws.BytesArg
import Derived.Laws.IdiomStrings
namespace Go.Proofs.YtjmfkinedhmglaaDoor
set_option linter.unusedSimpArgs false
set_option linter.unusedVariables false
open Go.RowKit
theorem zY {p : Prop} (h : p) : Hid p := Lib.hid h
theorem eX {α : Sort _} (a : α) : ∃ x, x = a := ⟨a, rfl⟩
end Go.Proofs.YtjmfkinedhmglaaDoor
namespace Go.Proofs.YtjmfkinedhmglaaDoor
set_option linter.unusedSimpArgs false
set_option linter.unusedVariables false
set_option maxRecDepth 100000
set_option maxHeartbeats 4000000
open Go.RowKit
def byteV (b:UInt8):Value:=.int .u8 (b.toNat:Int)
def bytesV (l:List UInt8):List Value:=l.map byteV
theorem qaz (l r:List UInt8):bytesV (l++r)=bytesV l++bytesV r:=by simp [bytesV]
theorem qam (l:List UInt8):(bytesV l).length=l.length:=by simp [bytesV]
theorem ret_int {k:IntKind} {a b:Int} (h:a=b):Ending.returned (.int k a)=.returned (.int k b):=by rw [h]
theorem qaY {a b:Bool} (h:a=b):Ending.returned (.bool a)=.returned (.bool b):=by rw [h]
theorem ret_str {a b:ByteArray} (h:a=b):Ending.returned (.string a)=.returned (.string b):=by rw [h]
theorem qbc (s:ByteArray):s.toList=s.data.toList:=Lib.toList_data s
theorem qbU (s:ByteArray):s.toList=[]↔s.size=0:=by
 rw [qbc]
 constructor
 ·intro h;have:s.data.toList.length=0:=by rw [h]; rfl
  rwa [Array.length_toList] at this
 ·intro h;exact List.eq_nil_of_length_eq_zero (by rw [Array.length_toList]; exact h)
theorem qaF (x:Int) (h0:0≤x):byteV (UInt8.ofInt x)=.int .u8 (x%256):=by
 unfold byteV
 congr 1
 obtain ⟨n,rfl⟩:=Int.eq_ofNat_of_zero_le h0;simp [UInt8.ofInt,UInt8.toNat,UInt8.ofNat];omega
theorem qab {P:Program} {f:FuncId} {args:Array Value} {w:World} {R K:Ending→World→Prop} (h:Calls P f args w R) (hk:∀ e w',R e w'→K e w'):Calls P f args w K:=h.mono hk
structure SlT (P:Program) (t e:TypeId) (size bytes:Nat):Prop where
 und:P.underlying t=some (.slice e)
 info:∃ i z,P.info? e=some i∧i.zero=some z∧i.size=size∧i.bytes=bytes∧z.cells.size=size
 pos:0<size
theorem SlT.mk1 {P:Program} {t e:TypeId} {z:Value} {size bytes:Nat} (hu:P.underlying t=some (.slice e)) (h:(P.info? e).map (fun i=>(i.zero,i.size,i.bytes))=some (some z,size,bytes))
  (hz:z.cells.size=size) (hp:0<size):SlT P t e size bytes:=by
 obtain ⟨i,hi,h0,h1,h2⟩:=info_parts h;exact ⟨hu,⟨i,z,hi,h0,h1,h2,hz⟩,hp⟩
def Next (w:World) (v v':Value):Prop:=v'.ownBlock=v.ownBlock∨∀ k,v'.ownBlock=some k→w.heap.size≤k
theorem Next.refl (w:World) (v:Value):Next w v v:=.inl rfl
theorem Next.trans {w w1:World} {v v1 v2:Value} (h:Next w v v1) (h1:Next w1 v1 v2) (hs:w.heap.size≤w1.heap.size):Next w v v2:=by
 rcases h1 with h1 | h1
 ·rcases h with h | h
  ·exact .inl (h1.trans h)
  ·exact .inr fun k hk=>h k (h1▸hk)
 ·exact .inr fun k hk=>Nat.le_trans hs (h1 k hk)
theorem Next.back {w w1:World} {v v':Value} (h:Next w1 v v') (hs:w.heap.size≤w1.heap.size):Next w v v' :=
 h.imp id fun h k hk=>Nat.le_trans hs (h k hk)
theorem qa3 {w w1 w2:World} {v v1:Value} (h:w.grownBy w1 v.ownBlock) (hn:Next w v v1) (h1:w1.grownBy w2 v1.ownBlock):w.grownBy w2 v.ownBlock:=by
 refine ⟨h1.os.trans h.os,h1.tape.trans h.tape,h1.output.trans h.output,Nat.le_trans h.size h1.size,fun k hk hne=>?_⟩;refine (h1.block k (Nat.lt_of_lt_of_le hk h.size) ?_).trans (h.block k hk hne)
 rcases hn with hn | hn
 ·rwa [hn]
 ·intro e; have:=hn k e.symm; omega
theorem qcp {w w1:World} {r:Option Nat} (h:w.grownBy w1 r):w.grownBy w1.drew r:=⟨h.os,h.tape,h.output,h.size,h.block⟩
theorem qb5 {w w1:World} {r:Option Nat} (h:w.grownBy w1 r) (o:Obj):w.grownBy (w1.alloc o) r :=
 h.trans (World.grownBy_alloc _ _ _)
theorem qbb {B:Nat} {w w1:World} {v:Value} (h:w.grownBy w1 v.ownBlock) (hB:B≤w.heap.size) (hv:∀ k,v.ownBlock=some k→B≤k):Below B w w1 :=
 (Below.refl B w).grown h hB hv
def OwnX (w:World) (base:Nat) (e:TypeId) (size:Nat) (v:Value) (n:Nat) (xs:List Value):Prop :=
 xs.length=n*size ∧
 ((v=.slice none 0 0∧n=0) ∨
  ∃ g cap cur fz,v=.slice (some ⟨g,0,none⟩) n cap∧base≤g∧w.heap[g]?=some (.cells cur e fz)∧n≤cap∧cap≤maxLen∧cur.size=cap*size∧cur.toList.take (n*size)=xs∧(fz=(0,0)∨cap=n))
section
variable {w w':World} {base e size n:Nat} {v:Value} {xs:List Value}
theorem OwnX.of (h:w.ownsRow base e size v n xs):OwnX w base e size v n xs:=by
 refine ⟨h.1,?_⟩
 rcases h.2 with h | ⟨g,cap,cur,h1,h2,h3,h4,h5,h6,h7⟩
 ·exact .inl h
 ·exact .inr ⟨g,cap,cur,(0,0),h1,h2,h3,h4,h5,h6,h7,.inl rfl⟩
theorem OwnX.nil (w:World) (base e size:Nat):OwnX w base e size (.slice none 0 0) 0 []:=⟨by simp,.inl ⟨rfl,rfl⟩⟩
theorem OwnX.lt (h:OwnX w base e size v n xs):∀ k,v.ownBlock=some k→base≤k∧k<w.heap.size:=by
 intro k hk
 rcases h.2 with ⟨rfl,_⟩ | ⟨g,cap,cur,fz,rfl,hb,hg,_⟩
 ·simp [Value.ownBlock] at hk
 ·simp [Value.ownBlock] at hk;subst hk;exact ⟨hb,(Array.getElem?_eq_some_iff.1 hg).1⟩
theorem OwnX.kept {row:Option Nat} (h:OwnX w base e size v n xs) (hg:w.grownBy w' row) (hne:v.ownBlock=none∨v.ownBlock≠row):OwnX w' base e size v n xs:=by
 refine ⟨h.1,?_⟩
 rcases h.2 with hn | ⟨g,cap,cur,fz,rfl,hb,hgg,rest⟩
 ·exact .inl hn
 ·refine .inr ⟨g,cap,cur,fz,rfl,hb,?_,rest⟩;rw [hg.block g (Array.getElem?_eq_some_iff.1 hgg).1 (by simpa [Value.ownBlock] using hne)];exact hgg
theorem OwnX.alloc (h:OwnX w base e size v n xs) (o:Obj):OwnX (w.alloc o) base e size v n xs :=
 h.kept (World.grownBy_alloc w o none) (by cases hv:v.ownBlock <;> simp)
theorem OwnX.below (h:OwnX w base e size v n xs) {B:Nat} (hb:Below B w w') (hB:w.heap.size≤B):OwnX w' base e size v n xs:=by
 refine ⟨h.1,?_⟩
 rcases h.2 with hn | ⟨g,cap,cur,fz,rfl,hbb,hgg,rest⟩
 ·exact .inl hn
 ·exact .inr ⟨g,cap,cur,fz,rfl,hbb,(hb.block g (Nat.lt_of_lt_of_le (Array.getElem?_eq_some_iff.1 hgg).1 hB)).trans hgg,rest⟩
theorem OwnX.le_cap {A:Option Addr} {c:Nat} (h:OwnX w base e size (.slice A n c) n xs):n≤c:=by
 rcases h.2 with ⟨_,hn⟩ | ⟨g,cap,cur,fz,hv,_,_,hnc,_⟩
 ·omega
 ·injection hv with _ _ h3; omega
theorem OwnX.mono (h:OwnX w base e size v n xs) {base':Nat} (hb:base'≤base):OwnX w base' e size v n xs :=
 ⟨h.1,h.2.elim .inl fun ⟨g,cap,cur,fz,hv,hg,r⟩=>.inr ⟨g,cap,cur,fz,hv,Nat.le_trans hb hg,r⟩⟩
theorem OwnX.cells (h:OwnX w base e size v n xs) {g:Nat} (hg:v.ownBlock=some g):∀ j u,xs[j]?=some u→w.cell? ((⟨g,0,none⟩:Addr).add j)=some u:=by
 intro j u hu
 rcases h.2 with ⟨rfl,_⟩ | ⟨g',cap,cur,fz,rfl,_,hgg,_,_,_,htake,_⟩
 ·simp [Value.ownBlock] at hg
 ·simp [Value.ownBlock] at hg;subst hg;have hadd:(⟨g',0,none⟩:Addr).add j=⟨g',j,none⟩:=by unfold Addr.add; split <;> simp_all
  rw [hadd,cell_of_row w g' j cur e fz hgg];rw [← htake,List.getElem?_take] at hu
  split at hu
  ·simpa using hu
  ·cases hu
end
theorem grown_of_below {w w1:World} (h:Below w.heap.size w w1) (r:Option Nat):w.grownBy w1 r:=⟨h.os,h.tape,h.output,h.size,fun k hk _=>h.block k hk⟩
theorem next_nil {W w:World} {B e s n:Nat} {v:Value} {xs:List Value} (h:OwnX w B e s v n xs) (hB:W.heap.size≤B):Next W (.slice none 0 0) v:=.inr fun k hk=>Nat.le_trans hB (h.lt k hk).1
theorem below_own {W w1 w2:World} {B e s n:Nat} {v:Value} {xs:List Value} (hb:Below W.heap.size W w1) (h:OwnX w1 B e s v n xs) (hB:W.heap.size≤B) (hg:w1.grownBy w2 v.ownBlock):Below W.heap.size W w2 :=
 hb.grown hg hb.size fun k hk=>Nat.le_trans hB (h.lt k hk).1
theorem qda {W w1 w2:World} {v:Value} (hb:Below W.heap.size W w1) (hn:Next W (.slice none 0 0) v) (hg:w1.grownBy w2 v.ownBlock):Below W.heap.size W w2:=by
 refine hb.grown hg hb.size fun k hk=>?_
 rcases hn with hn | hn
 ·rw [hn] at hk; simp [Value.ownBlock] at hk
 ·exact hn k hk
def Rd (w:World) (B:Nat) (A:Option Addr) (xs:List Value):Prop:=∀ i u,xs[i]?=some u→∃ ad,A=some ad∧ad.block<B∧w.cell? (ad.add i)=some u
theorem qaC (a:Addr) (n:Nat):(a.add n).block=a.block:=by unfold Addr.add; split <;> rfl
theorem Rd.below {w w':World} {B:Nat} {A:Option Addr} {xs:List Value} (h:Rd w B A xs) (hb:Below B w w'):Rd w' B A xs:=fun i u hu=>by
 obtain ⟨ad,ha,hlt,hc⟩:=h i u hu;exact ⟨ad,ha,hlt,(hb.cell (by rw [qaC]; exact hlt)).trans hc⟩
theorem Rd.mono {w:World} {B B':Nat} {A:Option Addr} {xs:List Value} (h:Rd w B A xs) (hb:B≤B'):Rd w B' A xs:=fun i u hu=>by
 obtain ⟨ad,ha,hlt,hc⟩:=h i u hu;exact ⟨ad,ha,Nat.lt_of_lt_of_le hlt hb,hc⟩
theorem Rd.nil (w:World) (B:Nat) (A:Option Addr):Rd w B A []:=fun i u hu=>by simp at hu
theorem Rd.at_ {w:World} {B k:Nat} {A:Option Addr} {xs:List Value} (h:Rd w B A xs) (hk:k<xs.length):∃ ad,A=some ad∧ad.block<B∧w.cell? (ad.add k)=some xs[k] :=
 h k _ (List.getElem?_eq_getElem hk)
theorem Rd.of_own {w:World} {base B:Nat} {e:TypeId} {size n c:Nat} {A:Option Addr} {xs:List Value} (h:OwnX w base e size (.slice A n c) n xs) (hB:w.heap.size≤B):Rd w B A xs:=fun i u hu=>by
 rcases h.2 with ⟨hv,hn⟩ | ⟨g,cap,cur,fz,hv,hbg,hg,_⟩
 ·have:=h.1;rw [hn,Nat.zero_mul] at this;rw [List.eq_nil_of_length_eq_zero this] at hu;simp at hu
 ·have hA:A=some ⟨g,0,none⟩:=by injection hv
  subst hA;exact ⟨_,rfl,by have:=(Array.getElem?_eq_some_iff.1 hg).1; show g<B; omega,h.cells (g:=g) rfl i u hu⟩
def KeepBut (e:TypeId) (w w':World):Prop:=w.heap.size≤w'.heap.size∧∀ (k:Nat) (cs:Array Value) (t:TypeId) (fz:Nat × Nat),t≠e→w.heap[k]?=some (Obj.cells cs t fz)→w'.heap[k]?=some (Obj.cells cs t fz)
theorem qau {w w':World} {B:Nat} {e:TypeId} {s n:Nat} {v:Value} {xs:List Value} (hown:OwnX w B e s v n xs) (hg:w.grownBy w' v.ownBlock):KeepBut e w w':=by
 refine ⟨hg.size,fun k cs t fz ht hk=>?_⟩;have hlt:k<w.heap.size:=(Array.getElem?_eq_some_iff.1 hk).1;refine (hg.block k hlt fun hb=>?_).trans hk
 rcases hown.2 with ⟨rfl,_⟩ | ⟨g,cap,cur,fz,rfl,_,hgg,_⟩
 ·simp [Value.ownBlock] at hb
 ·simp [Value.ownBlock] at hb;subst hb;rw [hgg] at hk;simp at hk;exact ht hk.2.1.symm
theorem heap_keep {e:TypeId} {w w':World} (h:KeepBut e w w') {k:Nat} {cs:Array Value} {t:TypeId} {fz:Nat × Nat} (ht:t≠e) (hk:w.heap[k]?=some (.cells cs t fz)):w'.heap[k]?=some (.cells cs t fz):=h.2 k cs t fz ht hk
def Alloc1 (w w':World):Prop:=∃ o,w'=w.alloc o
theorem qc1 {w w':World} (h:Alloc1 w w') {k:Nat} {o:Obj} (hk:w.heap[k]?=some o):w'.heap[k]?=some o:=by
 obtain ⟨o',rfl⟩:=h;exact (Below.heap_alloc w o' k (Array.getElem?_eq_some_iff.1 hk).1).trans hk
theorem qbq {w w':World} (h:Alloc1 w w') {B:Nat} {e:TypeId} {s n:Nat} {v:Value} {xs:List Value} (ho:OwnX w B e s v n xs):OwnX w' B e s v n xs:=by
 obtain ⟨o',rfl⟩:=h; exact ho.alloc _
def One (e:TypeId) (y:Value) (x:Value) (w:World):Prop:=∃ g,x=.slice (some ⟨g,0,none⟩) 1 1∧w.heap[g]?=some (.cells #[y] e (0,0))
theorem One.keep {e f:TypeId} {y x:Value} {w w':World} (h:One e y x w) (hk:KeepBut f w w') (hne:e≠f):One e y x w':=by
 obtain ⟨g,hx,hg⟩:=h; exact ⟨g,hx,heap_keep hk hne hg⟩
theorem One.alloc1 {e:TypeId} {y x:Value} {w w':World} (h:One e y x w) (hk:Alloc1 w w'):One e y x w':=by
 obtain ⟨g,hx,hg⟩:=h; exact ⟨g,hx,qc1 hk hg⟩
theorem One.full {e:TypeId} {y x:Value} {w w':World} (h:One e y x w) (hk:Below w.heap.size w w'):One e y x w':=by
 obtain ⟨g,hx,hg⟩:=h; exact ⟨g,hx,(hk.block g (Array.getElem?_eq_some_iff.1 hg).1).trans hg⟩
theorem One.new (e:TypeId) (y:Value) (w:World):One e y (.slice (some ⟨w.heap.size,0,none⟩) 1 1) (w.alloc (.cells #[y] e)):=⟨_,rfl,heap_alloc_new w _⟩
section
variable {P:Program}
theorem qbD {w:World} {base e size n m old:Nat} {z:Value} {xs news:List Value} (hx:xs.length=n*size) (hl:news.length=m*size) (hzs:z.cells.size=size) (h63:n+m≤maxLen) (hbase:base≤w.heap.size) :
  (w.drew.alloc (.cells (xs.toArray++news.toArray++Builtin.zeroCells z.cells (grownCap w (n+m) old e - (n+m))) e)).ownsRow base e size
   (.slice (some ⟨w.heap.size,0,none⟩) (n+m) (grownCap w (n+m) old e)) (n+m) (xs++news):=by
 have hge:=grownCap_ge w (n+m) old e;have hcm:grownCap w (n+m) old e≤maxLen:=grownCap_le_maxLen w (n+m) old e h63;have hlen:(xs++news).length=(n+m)*size:=by rw [List.length_append,hx,hl,Nat.add_mul]
 refine ⟨hlen,.inr ⟨w.heap.size,_,_,rfl,hbase,heap_alloc_new w.drew _,hge,hcm,?_,?_⟩⟩
 ·simp only [Array.size_append,List.size_toArray,size_zeroCells,hzs,hx,hl,← Nat.add_mul]
  congr 1
  omega
 ·simp only [Array.toList_append,List.append_assoc];rw [← List.append_assoc,← hlen];exact List.take_left
theorem qaR (w:World) (o:Obj) (r:Option Nat):w.grownBy (w.drew.alloc o) r:=⟨rfl,rfl,rfl,by simp,fun k hk _=>Below.heap_alloc w.drew o k hk⟩
def App (w:World) (base e size:Nat) (v:Value) (n:Nat) (xs:List Value) (x:Value) (w':World):Prop :=
 OwnX w' base e size x n xs∧w.grownBy w' v.ownBlock∧Next w v x
theorem qbm {w:World} {t ty e:TypeId} {size bytes:Nat} (T:SlT P t e size bytes) {base n:Nat} {v:Value} {xs:List Value} (hown:OwnX w base e size v n xs)
  {Ad:Option Addr} {m c:Nat} {news:List Value} (hl:news.length=m*size) (hnews:∀ j u,news[j]?=some u→∃ ad,Ad=some ad∧w.cell? (ad.add j)=some u) (h1:∀ u ∈ news,u.oneCell'=true)
  (h63:n+m≤maxLen) (hbytes:(n+m)*bytes≤140737488355328) (hbase:base≤w.heap.size) :
  ∃ A c' w',(Builtin.append_ #[t,t] ty #[v,.slice Ad m c]).run P w=.ok (.slice A (n+m) c') w'∧App w base e size v (n+m) (xs++news) (.slice A (n+m) c') w':=by
 obtain ⟨i,z,hi,hz,hsz,hby,hzs⟩:=T.info
 by_cases hm:m=0
 ·subst hm;have hnn:news=[]:=List.eq_nil_of_length_eq_zero (by simpa using hl);subst hnn
  rcases hown.2 with ⟨rfl,rfl⟩ | ⟨g,cap,cur,fz,rfl,hb,hgg,hnc,rest⟩
  ·refine ⟨none,0,w,?_,by simpa using hown,World.grownBy.refl _ _,.inl rfl⟩
   cases Ad <;> simp [Builtin.append_,run_underlying T.und,sizeOf,typeInfo,hi,Builtin.lenOf,Builtin.firstCells,loadCells,loadCellsFrom]
  ·refine ⟨some ⟨g,0,none⟩,cap,w,?_,by simpa using hown,World.grownBy.refl _ _,.inl rfl⟩
   cases Ad <;> simp [Builtin.append_,run_underlying T.und,sizeOf,typeInfo,hi,Builtin.lenOf,Builtin.firstCells,loadCells,loadCellsFrom,hnc,storeCells]
 ·have hpos:0<news.length:=by rw [hl]; exact Nat.mul_pos (by omega) T.pos
  obtain ⟨ad,rfl,_⟩:=hnews 0 _ (List.getElem?_eq_getElem hpos)
  have hcells:∀ j u,news[j]?=some u→w.cell? (ad.add j)=some u:=fun j u hu=>by
   obtain ⟨ad',he,hc⟩:=hnews j u hu
   injection he with he
   subst he;exact hc
  by_cases hf:w.ownsRow base e size v n xs
  ·obtain ⟨v',w',hr,h2,h3,_,h5⟩:=run_append_own_at (P:=P) w base t ty e i z size bytes T.und hi hz hsz hby hzs T.pos v n xs hf ad m c news hl hcells h1 h63 hbytes hbase
   have hn:Next w v v':=by
    rcases h5 with h5 | h5
    ·exact .inl h5
    ·exact .inr fun k hk=>by rw [h5] at hk; simp at hk; omega
   rcases h2.2 with ⟨_,h0⟩ | ⟨g,cap,cur,rfl,_⟩
   ·omega
   ·exact ⟨_,_,w',hr,.of h2,h3,hn⟩
  ·rcases hown.2 with hnil | ⟨g,cap,cur,fz,rfl,hb,hgg,hnc,hcm,hcs,htk,hfz⟩
   ·exact absurd ⟨hown.1,.inl hnil⟩ hf
   ·rcases hfz with rfl | rfl
    ·exact absurd ⟨hown.1,.inr ⟨g,cap,cur,rfl,hb,hgg,hnc,hcm,hcs,htk⟩⟩ hf
    ·have holds:=hown.cells (g:=g) rfl;subst hsz;subst hby;have hr:=run_append_grow (P:=P) w t ty e i z T.und hi hz ⟨g,0,none⟩ cap cap xs hown.1 holds ad m c news hl hcells (by omega) (by simp only [maxLen] at h63; omega) (growslice_fits (by omega) hbytes);exact ⟨_,_,_,hr,.of (qbD hown.1 hl hzs h63 hbase),qaR _ _ _,.inr fun k hk=>by simp [Value.ownBlock] at hk; omega⟩
theorem run_append_str {w:World} {t u ty e:TypeId} (T:SlT P t e 1 1) (hz0:∃ i,P.info? e=some i∧i.zero=some (.int .u8 0)) (hu:P.underlying u=some .string)
  {base n:Nat} {v:Value} {xs:List Value} (s:ByteArray) (hown:OwnX w base e 1 v n xs) (hbytes:n+s.size≤140737488355328) (hbase:base≤w.heap.size) :
  ∃ A c w',(Builtin.append_ #[t,u] ty #[v,.string s]).run P w=.ok (.slice A (n+s.size) c) w'∧App w base e 1 v (n+s.size) (xs++Lib.strCells s) (.slice A (n+s.size) c) w':=by
 obtain ⟨i,z,hi,hz,hsz,hby,hzs⟩:=T.info;obtain ⟨i',hi',hz'⟩:=hz0;have:i=i':=by rw [hi] at hi'; exact Option.some.inj hi'
 subst this;have hsc:(Lib.strCells s).length=s.size*1:=by rw [Lib.strCells_length]; omega
 by_cases hm:s.size=0
 ·have hf:=Lib.run_firstCells_string (P:=P) w 1 s;rw [hm] at hf;have hnn:Lib.strCells s=[]:=List.eq_nil_of_length_eq_zero (by omega);rw [hm,hnn,List.append_nil,Nat.add_zero]
  rcases hown.2 with ⟨rfl,rfl⟩ | ⟨g,cap,cur,fz,rfl,hb,hgg,hnc,rest⟩
  ·refine ⟨none,0,w,?_,hown,World.grownBy.refl _ _,.inl rfl⟩;simp [Builtin.append_,run_underlying T.und,run_underlying hu,sizeOf,typeInfo,hi,hsz,Builtin.lenOf,hm,hf]
  ·refine ⟨some ⟨g,0,none⟩,cap,w,?_,hown,World.grownBy.refl _ _,.inl rfl⟩;rw [hnn] at hf;simp [Builtin.append_,run_underlying T.und,run_underlying hu,sizeOf,typeInfo,hi,hsz,Builtin.lenOf,hm,hf,hnc,storeCells]
 ·rcases hown.2 with ⟨rfl,rfl⟩ | ⟨g,cap,cur,fz,rfl,hbg,hg,hnc,hcm,hcs,htake,hfz⟩
  ·have hx:xs=[]:=List.eq_nil_of_length_eq_zero (by simpa using hown.1);subst hx;have hr:=run_append_nil_string (P:=P) w t u ty e i (.int .u8 0) T.und hu hi hz' s (by omega) (by omega) (by rw [hby]; omega)
   have e1:(s.data.map fun b=>Value.int .u8 b.toNat)=(Lib.strCells s).toArray:=by
    apply Array.ext';simp [Lib.strCells]
   rw [e1] at hr;have hg:=qbD (w:=w) (base:=base) (e:=e) (n:=0) (m:=s.size) (old:=0) (z:=.int .u8 0) (xs:=[]) (news:=Lib.strCells s) (size:=1) (by simp) hsc rfl (by unfold maxLen; omega) hbase;simp only [Nat.zero_add,List.nil_append,Array.empty_append] at hg ⊢;exact ⟨_,_,_,hr,.of hg,qaR _ _ _,.inr fun k hk=>by simp [Value.ownBlock] at hk; omega⟩
  ·by_cases hroom:n+s.size≤cap
   ·obtain rfl:fz=(0,0):=by
     rcases hfz with h | h
     ·exact h
     ·omega
    have hcs':cur.size=cap:=by simpa using hcs
    have hr:=Lib.run_append_room_string (P:=P) w t u ty e i T.und hu hi hsz g n cap cur hg s hroom (by omega);refine ⟨_,_,_,hr,.of ⟨by rw [List.length_append,hsc,hown.1,Nat.add_mul],.inr ⟨g,cap,_,rfl,hbg,setRow_heap w g cur _ e _ hg,hroom,hcm,?_,?_⟩⟩,⟨rfl,rfl,rfl,by simp,fun k _ hk=>setRow_other w g k _ (fun e=>hk (by simp [Value.ownBlock,e]))⟩,.inl rfl⟩
    ·simp only [List.size_toArray,List.length_append,List.length_take,List.length_drop,Array.length_toList,Lib.strCells_length];omega
    ·have ht':cur.toList.take n=xs:=by simpa using htake
     have hxl:xs.length=n:=by simpa using hown.1
     rw [ht',show (n+s.size)*1=(xs++Lib.strCells s).length by rw [List.length_append,Lib.strCells_length]; omega];exact List.take_left
   ·have holds:=hown.cells (g:=g) rfl;have hr:=Lib.run_append_grow_string (P:=P) w t u ty e i (.int .u8 0) T.und hu hi hz' ⟨g,0,none⟩ n cap xs (by rw [hsz]; exact hown.1) holds s (by omega) (by omega) (by rw [hby]; exact growslice_fits (by omega) (by omega));exact ⟨_,_,_,hr,.of (qbD hown.1 hsc rfl (by unfold maxLen; omega) hbase),qaR _ _ _,.inr fun k hk=>by simp [Value.ownBlock] at hk; omega⟩
theorem qax {w:World} {ops:Array Oper} {rest:List Oper} {o:Oper} {a:Act} {Q:Exit→Act→World→Prop} {sl x:Operand} {t u:TypeId} {v y:Value} {R:Value→World→Prop}
  (hgd:o.guard=none) (ho:o.op=.call { callee:=.builtin .append,args:=#[sl,x],argTypes:=#[t,u] }) (hs:a.eval sl=v) (hx:a.eval x=y)
  (hrun:∃ v' w',(Builtin.append_ #[t,u] o.type #[v,y]).run P w=.ok v' w'∧R v' w') (h:∀ v' w',R v' w'→wpList P ops Q rest (a.put o.dst v') w') :
  wpList P ops Q (o :: rest) a w:=by
 refine wpList_plain hgd fun K hK=>?_;obtain ⟨v',w',hr,h2⟩:=hrun;unfold Oper.wp execOp;simp only [ho,resolve,invoke,builtin,Sem.run_bind,Sem.run_pure,Result.andThen_ok,List.map_toArray,List.map_cons,List.map_nil,hs,hx,hr];exact hK _ _ (h v' w' h2)
theorem qaL {w0:World} {y:Value} {ops:Array Oper} {rest:List Oper} {o:Oper} {a:Act} {Q:Exit→Act→World→Prop} {s x:Operand} {t e:TypeId} {bytes:Nat} (T:SlT P t e 1 bytes)
  (hgd:o.guard=none) (ho:o.op=.call { callee:=.builtin .append,args:=#[s,x],argTypes:=#[t,t] })
  {base n:Nat} {v:Value} {xs:List Value} {ad:Nat} (hown:OwnX w0 base e 1 v n xs) (hs:a.eval s=v) (hx:a.eval x=.slice (some ⟨ad,0,none⟩) 1 1) (had:ad=w0.heap.size)
  (hy:y.oneCell'=true)
  (h63:n+1≤maxLen) (hbytes:(n+1)*bytes≤140737488355328) (hbase:base≤w0.heap.size)
  (h:∀ A c w',OwnX w' base e 1 (.slice A (n+1) c) (n+1) (xs++[y])→w0.grownBy w' v.ownBlock→Next w0 v (.slice A (n+1) c)→wpList P ops Q rest (a.put o.dst (.slice A (n+1) c)) w') :
  wpList P ops Q (o :: rest) a (w0.alloc (.cells #[y] e)):=by
 subst had
 obtain ⟨A,c,w',hr,h2,h3,h4⟩:=qbm (ty:=o.type) (c:=1) (Ad:=some ⟨w0.heap.size,0,none⟩) T (hown.alloc (.cells #[y] e)) (news:=[y]) (m:=1) rfl (fun j u hu=>⟨_,rfl,cell_one_new _ _ _ j u hu⟩)
  (by intro u hu; simp at hu; subst hu; exact hy) h63 hbytes (by simp; omega)
 refine qax (R:=fun v' w1=>v'=.slice A (n+1) c∧w1=w') hgd ho hs hx ⟨_,_,hr,rfl,rfl⟩ ?_;rintro v' w1 ⟨rfl,rfl⟩;exact h _ _ _ h2 ((World.grownBy_alloc w0 _ _).trans h3) (h4.back (by simp))
theorem qch {w0:World} {ys:List Value} {ops:Array Oper} {rest:List Oper} {o:Oper} {a:Act} {Q:Exit→Act→World→Prop} {s x:Operand} {t e:TypeId} {bytes:Nat} (T:SlT P t e 1 bytes)
  (hgd:o.guard=none) (ho:o.op=.call { callee:=.builtin .append,args:=#[s,x],argTypes:=#[t,t] })
  {base n m:Nat} {v:Value} {xs:List Value} {ad:Nat} (hown:OwnX w0 base e 1 v n xs) (hs:a.eval s=v) (hx:a.eval x=.slice (some ⟨ad,0,none⟩) m m) (had:ad=w0.heap.size) (hm:ys.length=m)
  (hy:∀ u ∈ ys,u.oneCell'=true)
  (h63:n+m≤maxLen) (hbytes:(n+m)*bytes≤140737488355328) (hbase:base≤w0.heap.size)
  (h:∀ A c w',OwnX w' base e 1 (.slice A (n+m) c) (n+m) (xs++ys)→w0.grownBy w' v.ownBlock→Next w0 v (.slice A (n+m) c)→wpList P ops Q rest (a.put o.dst (.slice A (n+m) c)) w') :
  wpList P ops Q (o :: rest) a (w0.alloc (.cells ys.toArray e)):=by
 subst had
 obtain ⟨A,c,w',hr,h2,h3,h4⟩:=qbm (ty:=o.type) (c:=m) (Ad:=some ⟨w0.heap.size,0,none⟩) T (hown.alloc (.cells ys.toArray e)) (news:=ys) (m:=m) (by omega) (fun j u hu=>⟨_,rfl,by
  have hadd:(⟨w0.heap.size,0,none⟩:Addr).add j=⟨w0.heap.size,j,none⟩:=by unfold Addr.add; split <;> simp_all
  rw [hadd,cell_of_row _ _ _ _ _ (0,0) (heap_alloc_new w0 _)]
  simpa using hu⟩) hy h63 hbytes (by simp; omega)
 refine qax (R:=fun v' w1=>v'=.slice A (n+m) c∧w1=w') hgd ho hs hx ⟨_,_,hr,rfl,rfl⟩ ?_;rintro v' w1 ⟨rfl,rfl⟩;exact h _ _ _ h2 ((World.grownBy_alloc w0 _ _).trans h3) (h4.back (by simp))
theorem qa7 {w:World} {ops:Array Oper} {rest:List Oper} {o:Oper} {a:Act} {Q:Exit→Act→World→Prop} {sl x:Operand} {t u e:TypeId} (T:SlT P t e 1 1)
  (hz:∃ i,P.info? e=some i∧i.zero=some (.int .u8 0)) (hu:P.underlying u=some .string)
  (hgd:o.guard=none) (ho:o.op=.call { callee:=.builtin .append,args:=#[sl,x],argTypes:=#[t,u] })
  {base n:Nat} {v:Value} {xs:List Value} {s:ByteArray} (hown:OwnX w base e 1 v n xs) (hs:a.eval sl=v) (hx:a.eval x=.string s)
  (hbytes:n+s.size≤140737488355328) (hbase:base≤w.heap.size)
  (h:∀ A c w',OwnX w' base e 1 (.slice A (n+s.size) c) (n+s.size) (xs++Lib.strCells s)→w.grownBy w' v.ownBlock→Next w v (.slice A (n+s.size) c)→wpList P ops Q rest (a.put o.dst (.slice A (n+s.size) c)) w') :
  wpList P ops Q (o :: rest) a w:=by
 obtain ⟨A,c,w',hr,h2,h3,h4⟩:=run_append_str (ty:=o.type) T hz hu s hown hbytes hbase;refine qax (R:=fun v' w1=>v'=.slice A (n+s.size) c∧w1=w') hgd ho hs hx ⟨_,_,hr,rfl,rfl⟩ ?_;rintro v' w1 ⟨rfl,rfl⟩;exact h _ _ _ h2 h3 h4
theorem qaX {w:World} {ops:Array Oper} {rest:List Oper} {o:Oper} {a:Act} {Q:Exit→Act→World→Prop} {sl x:Operand} {t e:TypeId} {size bytes:Nat} (T:SlT P t e size bytes)
  (hgd:o.guard=none) (ho:o.op=.call { callee:=.builtin .append,args:=#[sl,x],argTypes:=#[t,t] })
  {base n B:Nat} {v:Value} {xs:List Value} {Ad:Option Addr} {m cx:Nat} {news:List Value} (hown:OwnX w base e size v n xs) (hs:a.eval sl=v) (hx:a.eval x=.slice Ad m cx)
  (hl:news.length=m*size) (hr:Rd w B Ad news) (h1:∀ u ∈ news,u.oneCell'=true)
  (h63:n+m≤maxLen) (hbytes:(n+m)*bytes≤140737488355328) (hbase:base≤w.heap.size)
  (h:∀ A c w',OwnX w' base e size (.slice A (n+m) c) (n+m) (xs++news)→w.grownBy w' v.ownBlock→Next w v (.slice A (n+m) c)→wpList P ops Q rest (a.put o.dst (.slice A (n+m) c)) w') :
  wpList P ops Q (o :: rest) a w:=by
 obtain ⟨A,c,w',hr,h2,h3,h4⟩:=qbm (ty:=o.type) (c:=cx) T hown hl (fun j u hu=>by
  obtain ⟨ad,h1,_,h3⟩:=hr j u hu;exact ⟨ad,h1,h3⟩) h1 h63 hbytes hbase
 refine qax (R:=fun v' w1=>v'=.slice A (n+m) c∧w1=w') hgd ho hs hx ⟨_,_,hr,rfl,rfl⟩ ?_;rintro v' w1 ⟨rfl,rfl⟩;exact h _ _ _ h2 h3 h4
theorem own_const {w:World} {e:TypeId} {C:Array Value} {n g base:Nat} {fz:Nat × Nat} (hg:g=w.heap.size) (hn:C.size=n) (hm:n≤maxLen) (hb:base≤w.heap.size) :
  OwnX (w.alloc (.cells C e fz)) base e 1 (.slice (some ⟨g,0,none⟩) n n) n C.toList:=by
 subst hg;exact ⟨by simp [hn],.inr ⟨w.heap.size,n,C,fz,rfl,hb,heap_alloc_new w _,Nat.le_refl _,hm,by omega,by rw [Nat.mul_one,← hn,← Array.length_toList]; exact List.take_length,.inr rfl⟩⟩
end
def Blk (w:World) (g:Nat) (t:TypeId) (cs:Array Value):Prop:=w.heap[g]?=some (.cells cs t (0,0))
section
variable {w w':World} {g:Nat} {t:TypeId} {cs:Array Value}
theorem Blk.lt (h:Blk w g t cs):g<w.heap.size:=(Array.getElem?_eq_some_iff.1 h).1
theorem Blk.cell (h:Blk w g t cs) (i:Nat):w.cell? ⟨g,i,none⟩=cs[i]?:=cell_of_row w g i cs t (0,0) h
theorem Blk.free (h:Blk w g t cs) (i:Nat):w.frozen? ⟨g,i,none⟩=false:=by
 unfold Blk at h;simp [World.frozen?,h]
theorem Blk.new (w:World) (t:TypeId) (cs:Array Value):Blk (w.alloc (.cells cs t)) w.heap.size t cs:=heap_alloc_new w _
theorem Blk.alloc (h:Blk w g t cs) (o:Obj):Blk (w.alloc o) g t cs:=(Below.heap_alloc w o g h.lt).trans h
theorem Blk.below {B:Nat} (h:Blk w g t cs) (hb:Below B w w') (hg:g<B):Blk w' g t cs:=(hb.block g hg).trans h
theorem Blk.grown {row:Option Nat} (h:Blk w g t cs) (hb:w.grownBy w' row) (hg:some g≠row):Blk w' g t cs:=(hb.block g h.lt hg).trans h
theorem Blk.keep {e:TypeId} (h:Blk w g t cs) (hk:KeepBut e w w') (hne:t≠e):Blk w' g t cs:=heap_keep hk hne h
theorem Blk.alloc1 (h:Blk w g t cs) (hk:Alloc1 w w'):Blk w' g t cs:=qc1 hk h
theorem qaD {B:Nat} {e:TypeId} {s n:Nat} {v:Value} {xs:List Value} (ho:OwnX w B e s v n xs) (h:Blk w g t cs) (hne:t≠e):v.ownBlock≠some g:=by
 intro hb
 rcases ho.2 with ⟨rfl,_⟩ | ⟨g',cap,cur,fz,rfl,_,hgg,_⟩
 ·simp [Value.ownBlock] at hb
 ·simp [Value.ownBlock] at hb;subst hb;unfold Blk at h;rw [hgg] at h;simp at h;exact hne h.2.1.symm
end
theorem Rd.of_blk {w:World} {g B:Nat} {t:TypeId} {l:List Value} (h:Blk w g t l.toArray) (hB:g<B):Rd w B (some ⟨g,0,none⟩) l:=fun i u hu=>by
 refine ⟨_,rfl,hB,?_⟩;have hadd:(⟨g,0,none⟩:Addr).add i=⟨g,i,none⟩:=by unfold Addr.add; split <;> simp_all
 rw [hadd,h.cell i]
 simpa using hu
structure Wrote (g:Nat) (w w':World):Prop where
 grown:w.grownBy w' (some g)
 size:w'.heap.size=w.heap.size
theorem Wrote.below {B g:Nat} {a w w':World} (h:Wrote g w w') (hb:Below B a w) (hg:B≤g) (hB:B≤w.heap.size):Below B a w':=hb.grown h.grown hB fun k hk=>by injection hk with hk; omega
theorem Wrote.own {g:Nat} {w w':World} {B:Nat} {e:TypeId} {s n:Nat} {v:Value} {xs:List Value} (h:Wrote g w w') (ho:OwnX w B e s v n xs) (hne:v.ownBlock≠some g):OwnX w' B e s v n xs:=ho.kept h.grown (.inr hne)
theorem Wrote.blk {g g':Nat} {w w':World} {t:TypeId} {cs:Array Value} (h:Wrote g w w') (hb:Blk w g' t cs) (hne:g'≠g):Blk w' g' t cs:=hb.grown h.grown (by simpa using hne)
theorem qbl (w:World) (g:Nat) (cs:Array Value):Wrote g w (w.setRow g cs) :=
 ⟨⟨rfl,rfl,rfl,by simp,fun k _ hk=>setRow_other w g k _ (fun e=>hk (by rw [e]))⟩,by simp⟩
section
variable {P:Program}
theorem qae {w:World} {ops:Array Oper} {rest:List Oper} {o:Oper} {a:Act} {Q:Exit→Act→World→Prop} {ty:TypeId} {x y:Operand} {g:Nat} {cells old:Array Value} {t:TypeId}
  (hg:Blk w g t old) (hgd:o.guard=none) (ho:o.op=.store ty x y) (hx:a.eval x=.pointer (some ⟨g,0,none⟩)) (hy:a.eval y=.agg cells)
  (hi:(P.info? ty).map (·.size)=some cells.size) (hold:old.size=cells.size) (h1:cells.all (·.oneCell')=true)
  (h:∀ w',Blk w' g t cells→Wrote g w w'→wpList P ops Q rest (a.put o.dst undef) w'):wpList P ops Q (o :: rest) a w :=
 wpList_store_row hgd ty x y ho g cells hx hy t old hg hi hold h1 (h _ (setRow_heap w g old cells t (0,0) hg) (qbl w g cells))
theorem qac {w:World} {ops:Array Oper} {rest:List Oper} {o:Oper} {a:Act} {Q:Exit→Act→World→Prop} {ty:TypeId} {x:Operand} {g:Nat} {cs:Array Value} {t:TypeId} {d:TypeDesc}
  (hg:Blk w g t cs) (hgd:o.guard=none) (ho:o.op=.load ty x) (hx:a.eval x=.pointer (some ⟨g,0,none⟩))
  (hu:P.underlying ty=some d) (hd:(match d with | .struct _ | .array _ _=>true | _=>false)=true) (hi:(P.info? ty).map (·.size)=some cs.size)
  (h:wpList P ops Q rest (a.put o.dst (.agg cs)) w):wpList P ops Q (o :: rest) a w :=
 wpList_load_row hgd ty x ho g hx t cs (0,0) d hg hu hd hi h
theorem qap {fn:Func} {p:Tmp} {ty:TypeId} (h:fn.results=#[.cell p ty]) {tmps:Array Value} {w:World} {g:Nat} {cs:Array Value} {t:TypeId} {d:TypeDesc} (hp:tmps.getD p undef=.pointer (some ⟨g,0,none⟩))
  (hg:Blk w g t cs) (hu:P.underlying ty=some d) (hd:(match d with | .struct _ | .array _ _=>true | _=>false)=true) (hi:(P.info? ty).map (·.size)=some cs.size) :
  (results fn tmps).run P w=.ok (.agg cs) w:=by
 have hl:=run_loadVar_row (P:=P) w g t ty cs (0,0) d hg hu hd hi;have hp':tmps[p]?.getD undef=.pointer (some ⟨g,0,none⟩):=by simpa using hp
 simp only [results,h];simp [Sem.run_bind,Result.andThen,hp',asAddr,hl]
theorem qal {fn:Func} {p u:Tmp} {ty:TypeId} (h:fn.results=#[.cell p ty,.tmp u]) {tmps:Array Value} {w:World} {g:Nat} {cs:Array Value} {t:TypeId} {d:TypeDesc} (hp:tmps.getD p undef=.pointer (some ⟨g,0,none⟩))
  (hg:Blk w g t cs) (hu:P.underlying ty=some d) (hd:(match d with | .struct _ | .array _ _=>true | _=>false)=true) (hi:(P.info? ty).map (·.size)=some cs.size) :
  (results fn tmps).run P w=.ok (.tuple #[.agg cs,tmps.getD u undef]) w:=by
 have hl:=run_loadVar_row (P:=P) w g t ty cs (0,0) d hg hu hd hi;have hp':tmps[p]?.getD undef=.pointer (some ⟨g,0,none⟩):=by simpa using hp
 simp only [results,h];simp [Sem.run_bind,Result.andThen,hp',asAddr,hl]
theorem run_store_cell {w:World} {ty:TypeId} {g i:Nat} {v:Value} {cs:Array Value} {t:TypeId} (hg:Blk w g t cs) (hi:(P.info? ty).map (·.size)=some 1) (hlt:i<cs.size) (h1:v.oneCell'=true) :
  (storeVar ty ⟨g,i,none⟩ v).run P w=.ok () (w.setRow g (cs.setIfInBounds i v)):=by
 have hc1:v.cells=#[v]:=by cases v <;> first | rfl | simp [Value.oneCell'] at h1
 have hst:=run_storeCells_at P g i t [v] 0 cs w hg (by simp; omega) (by intro u hu; simp at hu; subst hu; exact h1)
 cases hq:P.info? ty with
 | none=>simp [hq] at hi
 | some j =>
  have hj:j.size=1:=by simpa [hq] using hi
  have e:(cs.toList.take (i+0)++[v]++cs.toList.drop (i+0+[v].length)).toArray=cs.setIfInBounds i v:=by
   apply Array.ext';simp only [Nat.add_zero,List.length_cons,List.length_nil,Array.toList_setIfInBounds];rw [List.set_eq_take_append_cons_drop,if_pos (by simpa using hlt)];simp
  rw [e] at hst;simp [storeVar,hc1,sizeOf,typeInfo,hq,hj,hst]
theorem qao {w:World} {ops:Array Oper} {rest:List Oper} {o:Oper} {a:Act} {Q:Exit→Act→World→Prop} {ty:TypeId} {x y:Operand} {g i:Nat} {v:Value} {cs:Array Value} {t:TypeId}
  (hg:Blk w g t cs) (hgd:o.guard=none) (ho:o.op=.store ty x y) (hx:a.eval x=.pointer (some ⟨g,i,none⟩)) (hy:a.eval y=v)
  (hi:(P.info? ty).map (·.size)=some 1) (hlt:i<cs.size) (h1:v.oneCell'=true)
  (h:∀ w',Blk w' g t (cs.setIfInBounds i v)→Wrote g w w'→wpList P ops Q rest (a.put o.dst undef) w'):wpList P ops Q (o :: rest) a w:=by
 refine wpList_plain hgd fun K hK=>?_;have hr:=run_store_cell (P:=P) (ty:=ty) hg hi hlt h1;unfold Oper.wp execOp;simp only [ho,hx,hy,Instr.storeAt,Instr.sureAddr,Sem.run_bind,Sem.run_pure,Result.andThen_ok,hr];exact hK _ _ (h _ (setRow_heap w g cs _ t (0,0) hg) (qbl w g _))
end
theorem qag {w:World} {g i:Nat} {t:TypeId} {cs:Array Value} (h:Blk w g t cs) (u:Value):Blk (w.setCell ⟨g,i,none⟩ u) g t (cs.setIfInBounds i u):=by
 unfold Blk at *;simp only [World.setCell,Array.getElem?_modify,if_pos,h];rfl
theorem qaf (w:World) (g i:Nat) (u:Value):Wrote g w (w.setCell ⟨g,i,none⟩ u) :=
 ⟨⟨rfl,rfl,rfl,by simp [World.setCell],fun k _ hk=>Below.heap_setCell _ _ _ _ (by simpa using hk)⟩,by simp [World.setCell]⟩
theorem rd_drop {w:World} {B:Nat} {ad:Addr} {xs:List Value} (h:Rd w B (some ad) xs) (n:Nat):Rd w B (some (ad.add n)) (xs.drop n):=fun i u hu=>by
 rw [List.getElem?_drop] at hu;obtain ⟨ad',e,hb,hc⟩:=h _ u hu
 injection e with e
 subst e;refine ⟨_,rfl,by rw [qaC]; exact hb,?_⟩;rw [show (ad.add n).add i=ad.add (n+i) from ?_]
 ·exact hc
 ·unfold Addr.add
  by_cases h1:n=0 <;> by_cases h2:i=0 <;> simp [h1,h2,Nat.add_assoc]
theorem rd_take {w:World} {B:Nat} {A:Option Addr} {xs:List Value} (h:Rd w B A xs) (n:Nat):Rd w B A (xs.take n):=fun i u hu=>by
 rw [List.getElem?_take] at hu
 split at hu
 ·exact h i u hu
 ·simp at hu
theorem blk_src {w:World} {g:Nat} {t:TypeId} {cs:Array Value} (h:Blk w g t cs) (n:Nat):∀ j v,(cs.toList.take n)[j]?=some v→w.cell? ((⟨g,0,none⟩:Addr).add j)=some v:=fun j v hv=>by
 have hadd:(⟨g,0,none⟩:Addr).add j=⟨g,j,none⟩:=by unfold Addr.add; split <;> simp_all
 rw [hadd,h.cell];rw [List.getElem?_take] at hv
 split at hv
 ·simpa using hv
 ·cases hv
section
variable {P:Program}
theorem qcw {w:World} {g o n:Nat} {t ty:TypeId} {cs r:Array Value} {d:TypeDesc} (hg:Blk w g t cs) (ho:o+n≤cs.size) (hr:((cs.toList.drop o).take n).toArray=r)
  (hu:P.underlying ty=some d) (hd:(match d with | .struct _ | .array _ _=>true | _=>false)=true) (hi:(P.info? ty).map (·.size)=some n) :
  (loadVar ty ⟨g,o,none⟩).run P w=.ok (.agg r) w:=by
 subst hr;have hlen:((cs.toList.drop o).take n).length=n:=by simp; omega
 have hl:(loadCells ⟨g,o,none⟩ ((cs.toList.drop o).take n).length).run P w=.ok ((cs.toList.drop o).take n).toArray w :=
  run_loadCells_list (P:=P) w ⟨g,o,none⟩ ((cs.toList.drop o).take n) (fun j v hv=>by
   have hadd:(⟨g,o,none⟩:Addr).add j=⟨g,o+j,none⟩:=by unfold Addr.add; split <;> simp_all
   rw [hadd,hg.cell];rw [List.getElem?_take] at hv
   split at hv
   ·rw [List.getElem?_drop] at hv
    simpa using hv
   ·cases hv)
 rw [hlen] at hl
 cases hq:P.info? ty with
 | none=>simp [hq] at hi
 | some i =>
  have hs:i.size=n:=by simpa [hq] using hi
  have hagg:(isAgg ty).run P w=.ok true w:=by
   unfold isAgg;rw [Sem.run_bind,run_underlying hu w]
   cases d <;> simp_all
  simp [loadVar,Sem.run_bind,hagg,sizeOf,typeInfo,hq,hs,hl]
theorem qah {w:World} {ops:Array Oper} {rest:List Oper} {o:Oper} {a:Act} {Q:Exit→Act→World→Prop} {ty:TypeId} {x:Operand} {g k n:Nat} {cs r:Array Value} {t:TypeId} {d:TypeDesc}
  (hg:Blk w g t cs) (hk:k+n≤cs.size) (hr:((cs.toList.drop k).take n).toArray=r) (hgd:o.guard=none) (ho:o.op=.load ty x) (hx:a.eval x=.pointer (some ⟨g,k,none⟩))
  (hu:P.underlying ty=some d) (hd:(match d with | .struct _ | .array _ _=>true | _=>false)=true) (hi:(P.info? ty).map (·.size)=some n)
  (h:wpList P ops Q rest (a.put o.dst (.agg r)) w):wpList P ops Q (o :: rest) a w:=by
 refine wpList_plain hgd fun K hK=>?_;have hrun:=qcw (P:=P) hg hk hr hu hd hi;unfold Oper.wp execOp;simp only [ho,hx,Instr.loadAt,Instr.sureAddr,Sem.run_bind,Sem.run_pure,Result.andThen_ok,hrun];exact hK _ _ h
theorem qcJ {w:World} {ops:Array Oper} {rest:List Oper} {o:Oper} {a:Act} {Q:Exit→Act→World→Prop} {d s:Operand} {dT sT elem t:TypeId} {g off dLen dCap sLen sCap:Nat} {ad:Addr} {cur new:Array Value} (cs:List Value)
  (hg:Blk w g t cur) (hgd:o.guard=none) (ho:o.op=.call { callee:=.builtin .copy,args:=#[d,s],argTypes:=#[dT,sT] }) (hu:P.underlying dT=some (.slice elem)) (hsz:(P.info? elem).map (·.size)=some 1)
  (hd:a.eval d=.slice (some ⟨g,off,none⟩) dLen dCap) (hs:a.eval s=.slice (some ad) sLen sCap) (hn:cs.length=Nat.min sLen dLen)
  (hsrc:∀ j v,cs[j]?=some v→w.cell? (ad.add j)=some v) (hfit:off+cs.length≤cur.size) (h1:∀ v ∈ cs,v.oneCell'=true)
  (hnew:(cur.toList.take off++cs++cur.toList.drop (off+cs.length)).toArray=new)
  (h:∀ w',Blk w' g t new→Wrote g w w'→wpList P ops Q rest (a.put o.dst (goInt cs.length)) w'):wpList P ops Q (o :: rest) a w:=by
 refine wpList_plain hgd fun K hK=>?_;have hr:=run_copy_row (P:=P) w dT sT o.type elem g off dLen dCap ad sLen sCap cur t cs hu hsz hg hn hsrc hfit h1;rw [hnew] at hr;unfold Oper.wp execOp;simp only [ho,resolve,invoke,builtin,Sem.run_bind,Sem.run_pure,Result.andThen_ok,List.map_toArray,List.map_cons,List.map_nil,hs,hd,hr];exact hK _ _ (h _ (setRow_heap w g cur _ t (0,0) hg) (qbl w g _))
theorem run_not64 {w:World} (e:Nat) (he:e<18446744073709551616):(Op.unary .xor (.int .u64 (e:Int))).run P w=.ok (.int .u64 ((18446744073709551615 - e:Nat):Int)) w:=by
 have h1:BitVec.ofInt 64 (18446744073709551615:Int)=BitVec.allOnes 64:=by decide
 have h:bits .xor .u64 (18446744073709551615:Int) (e:Int)=((18446744073709551615 - e:Nat):Int):=by
  show IntKind.u64.wrap ((BitVec.ofInt 64 (18446744073709551615:Int) ^^^ BitVec.ofInt 64 (e:Int)).toNat:Int)=_;rw [h1,BitVec.allOnes_xor,BitVec.toNat_not,BitVec.ofInt_natCast,BitVec.toNat_ofNat,Nat.mod_eq_of_lt he,IntKind.wrap_u64];omega
 have hm:IntKind.u64.max=18446744073709551615:=by decide
 rw [unary_xor];simp only [IntKind.signed,hm,Bool.false_eq_true,if_false];rw [← h];rfl
theorem wpList_unary {w:World} {ops:Array Oper} {rest:List Oper} {o:Oper} {a:Act} {Q:Exit→Act→World→Prop} {u:UnOp} {ty:TypeId} {x:Operand} {v r:Value}
  (hr:(Op.unary u v).run P w=.ok r w) (hgd:o.guard=none) (ho:o.op=.unOp u ty x) (hx:a.eval x=v) (h:wpList P ops Q rest (a.put o.dst r) w):wpList P ops Q (o :: rest) a w:=by
 refine wpList_plain hgd fun K hK=>?_;unfold Oper.wp execOp;simp only [ho,hx,Sem.run_bind,Sem.run_pure,Result.andThen_ok,hr];exact hK _ _ h
theorem qaH {w:World} {t e:TypeId} {n:Nat} {cs:Array Value} {k:Nat} {v:Value} (h:P.underlying t=some (.array n e)) (hk:k<n) (hv:cs[k]?=some v) (hs:(P.info? e).map (·.size)=some 1)
  (hag:(match P.underlying e with | some (.struct _) | some (.array _ _)=>true | _=>false)=false) (hu:∃ d,P.underlying e=some d):(Instr.index t (.agg cs) (.int .i64 (k:Int))).run P w=.ok v w:=by
 obtain ⟨d,hd⟩:=hu;have h0:(0:Int)≤(k:Int)∧(k:Int)<(n:Int):=by omega
 cases hq:P.info? e with
 | none=>simp [hq] at hs
 | some j =>
  have hj:j.size=1:=by simpa [hq] using hs
  have hagg:(isAgg e).run P w=.ok false w:=by
   unfold isAgg;rw [Sem.run_bind,run_underlying hd w];rw [hd] at hag
   cases d <;> simp_all
  simp [Instr.index,run_underlying h,asIntOf,h0,sizeOf,typeInfo,hq,hj,part,hagg,hv,go_sem];intro hle;omega
end
end Go.Proofs.YtjmfkinedhmglaaDoor
namespace Go.Proofs.YtjmfkinedhmglaaDoor
set_option linter.unusedSimpArgs false
set_option linter.unusedVariables false
set_option maxRecDepth 100000
set_option maxHeartbeats 4000000
section
variable {P:Program} {ops:Array Oper}
def dstAt (ops:Array Oper) (i:Nat):Option Tmp:=(ops[i]?).bind (·.dst)
def waitsOf (ops:Array Oper) (i:Nat):List Nat :=
 match ops[i]? with
 | some o=>o.after.toList.filterMap fun e=>if Region.binds .any e then some e.on else none
 | none=>[]
def putAll (ops:Array Oper) (vals:Nat→Value):List Nat→Act→Act
 | [],a=>a
 | j :: r,a=>putAll ops vals r (a.put (dstAt ops j) (vals j))
def regionOk (ops:Array Oper):Bool :=
 (List.range ops.size).all fun i =>
  match ops[i]? with
  | none=>false
  | some o =>
   (match o.op with | .select ..=>false | _=>true) &&
   (waitsOf ops i).all (·<i) &&
   (o.looksAt ops).all (fun t=>(List.range ops.size).all fun j=>dstAt ops j != some t || (waitsOf ops i).contains j || (waitsOf ops j).contains i) &&
   (match o.guard with | some (g,_)=>(waitsOf ops i).contains g | none=>true) &&
   (List.range ops.size).all fun j=>j == i || dstAt ops i == none || dstAt ops j != dstAt ops i
def deepWaits (ops:Array Oper):Nat→Nat→List Nat
 | 0,i=>waitsOf ops i
 | f+1,i=>waitsOf ops i++(waitsOf ops i).flatMap (deepWaits ops f)
theorem qa0 {ops:Array Oper} {L:Nat→Prop} (hc:∀ j,L j→∀ i ∈ waitsOf ops j,L i):∀ (f j:Nat),L j→∀ i ∈ deepWaits ops f j,L i
 | 0,j,hj,i,hi=>hc j hj i hi
 | f+1,j,hj,i,hi=>by
  rcases List.mem_append.1 hi with h | h
  ·exact hc j hj i h
  ·obtain ⟨k,hk,hik⟩:=List.mem_flatMap.1 h;exact qa0 hc f k (hc j hj k hk) i hik
def availAt (ops:Array Oper) (kills:Nat→Nat→Bool) (j i:Nat):Bool :=
 (waitsOf ops i).contains j && (List.range ops.size).all fun k=>k == i || k == j || !kills k j || (deepWaits ops 5 k).contains i
def availIni (ops:Array Oper) (ik:Nat→Bool) (i:Nat):Bool :=
 (List.range ops.size).all fun k=>k == i || !ik k || (deepWaits ops 5 k).contains i
def aliveAt (ops:Array Oper) (kills:Nat→Nat→Bool) (j:Nat):Bool :=
 (List.range ops.size).all fun k=>k == j || !kills k j
theorem qcD (a:Act) (d:Option Tmp) (v:Value):(a.put d v).tmps.size=a.tmps.size:=by cases d <;> simp [Act.put]
theorem qa9 (a:Act) (d:Option Tmp) (v:Value):(a.put d v).defers=a.defers:=by cases d <;> rfl
theorem qcT (a:Act) (d:Tmp) (v:Value) (h:d<a.tmps.size):(a.put (some d) v).tmps[d]?=some v:=by simp [Act.put,h]
theorem qbB (a:Act) (d:Option Tmp) (v:Value) (t:Tmp) (h:d≠some t):(a.put d v).tmps[t]?=a.tmps[t]?:=by
 cases d with
 | none=>rfl
 | some d=>simp [Act.put,Array.getElem?_setIfInBounds_ne (show d≠t from fun e=>h (by rw [e]))]
structure OkAt (ops:Array Oper) (i:Nat) (o:Oper):Prop where
 sel:∀ cs b,o.op≠.select cs b
 before:∀ j ∈ waitsOf ops i,j<i
 look:∀ t ∈ o.looksAt ops,∀ j,dstAt ops j=some t→j ∈ waitsOf ops i∨i ∈ waitsOf ops j
 guard:∀ g b,o.guard=some (g,b)→g ∈ waitsOf ops i
 dist:∀ j,j≠i→∀ d,dstAt ops i=some d→dstAt ops j≠some d
theorem qcv {j:Nat} {d:Tmp} (h:dstAt ops j=some d):j<ops.size:=by
 rcases Nat.lt_or_ge j ops.size with h' | h'
 ·exact h'
 ·simp [dstAt,Array.getElem?_eq_none h'] at h
theorem okAt (hok:regionOk ops=true) {i:Nat} {o:Oper} (ho:ops[i]?=some o):OkAt ops i o:=by
 have hi:i<ops.size:=(Array.getElem?_eq_some_iff.1 ho).1;have h:=(List.all_eq_true.1 hok) i (List.mem_range.2 hi);simp only [ho,Bool.and_eq_true] at h;obtain ⟨⟨⟨⟨h1,h2⟩,h3⟩,h4⟩,h5⟩:=h;refine ⟨fun cs b e=>by simp [e] at h1,fun j hj=>by simpa using (List.all_eq_true.1 h2) j hj,fun t ht j hj=>?_,fun g b hg=>?_,fun j hj d hd=>?_⟩
 ·have:=(List.all_eq_true.1 ((List.all_eq_true.1 h3) t ht)) j (List.mem_range.2 (qcv hj))
  simpa [hj] using this
 ·rw [hg] at h4
  simpa using h4
 ·intro e;have:=(List.all_eq_true.1 h5) j (List.mem_range.2 (qcv e));simp [hj,hd,e] at this
theorem qbk (hdist:∀ i j d,i≠j→dstAt ops i=some d→dstAt ops j≠some d) (vals:Nat→Value):∀ (l:List Nat) (a:Act),
  (putAll ops vals l a).tmps.size=a.tmps.size∧(putAll ops vals l a).defers=a.defers ∧
  (∀ j ∈ l,∀ d,dstAt ops j=some d→d<a.tmps.size→(putAll ops vals l a).tmps[d]?=some (vals j)) ∧
  (∀ t,(∀ j ∈ l,dstAt ops j≠some t)→(putAll ops vals l a).tmps[t]?=a.tmps[t]?)
 | [],a=>⟨rfl,rfl,fun j hj=>by simp at hj,fun _ _=>rfl⟩
 | j :: r,a=>by
  obtain ⟨h1,h2,h3,h4⟩:=qbk hdist vals r (a.put (dstAt ops j) (vals j));simp only [putAll];refine ⟨h1.trans (qcD _ _ _),h2.trans (qa9 _ _ _),fun k hk d hd hlt=>?_,fun t ht=>?_⟩
  ·by_cases hkr:k ∈ r
   ·exact h3 k hkr d hd (by rw [qcD]; exact hlt)
   ·have hkj:k=j:=by
     rcases List.mem_cons.1 hk with h | h
     ·exact h
     ·exact absurd h hkr
    subst hkj;rw [h4 d (fun m hm e=>hdist k m d (fun e'=>hkr (e'▸hm)) hd e),hd];exact qcT a d _ hlt
  ·rw [h4 t (fun m hm=>ht m (List.mem_cons_of_mem _ hm))];exact qbB a _ _ t (ht j (List.mem_cons_self ..))
def upd (vals:Nat→Value) (i:Nat) (v:Value):Nat→Value:=fun k=>if k=i then v else vals k
structure RI (ops:Array Oper) (a0:Act) (C:World→Prop) (I0:Bool→World→Prop) (ik:Bool→Nat→Bool) (F:Nat→(Nat→Value)→World→Prop) (kills:Nat→Nat→Bool) (listed:Array Bool) (a:Act) (w:World) (vals:Nat→Value):Prop where
 size:listed.size=ops.size
 tsize:a.tmps.size=a0.tmps.size
 defers:a.defers=a0.defers
 done:∀ j,listed.getD j false=true→∀ d,dstAt ops j=some d→d<a0.tmps.size→a.tmps[d]?=some (vals j)
 other:∀ t,(∀ j,listed.getD j false=true→dstAt ops j≠some t)→a.tmps[t]?=a0.tmps[t]?
 closed:∀ j,listed.getD j false=true→∀ i ∈ waitsOf ops j,listed.getD i false=true
 c:C w
 ini:∀ m,(∀ k,listed.getD k false=true→ik m k=false)→I0 m w
 facts:∀ j,listed.getD j false=true→(∀ k,listed.getD k false=true→k≠j→kills k j=false)→F j vals w
theorem qcX {i j:Nat} {o:Oper} (ho:ops[i]?=some o):j ∈ waitsOf ops i↔∃ e ∈ o.after,Region.binds .any e=true∧e.on=j:=by
 simp [waitsOf,ho]
theorem qav (l:Array Bool) (i:Nat) (h:i<l.size):(l.setIfInBounds i true).getD i false=true:=by simp [h]
theorem qat (l:Array Bool) {i j:Nat} (h:i≠j):(l.setIfInBounds i true).getD j false=l.getD j false:=by
 simp [Array.getElem?_setIfInBounds_ne h]
def StepAt (P:Program) (ops:Array Oper) (a0:Act) (C:World→Prop) (I0:Bool→World→Prop) (ik:Bool→Nat→Bool) (F:Nat→(Nat→Value)→World→Prop) (St:Nat→World→World→Prop) (kills:Nat→Nat→Bool) (i:Nat) (o:Oper):Prop :=
 ∀ (w:World) (vals:Nat→Value),C w→(∀ m,availIni ops (ik m) i=true→I0 m w)→(∀ j,availAt ops kills j i=true→F j vals w) →
  wpList P ops (fun e a' w'=>e=.normal∧∃ v,a'=(putAll ops vals (waitsOf ops i) a0).put o.dst v∧F i (upd vals i v) w'∧C w'∧St i w w') [o] (putAll ops vals (waitsOf ops i) a0) w
theorem RI.step {a0:Act} {C:World→Prop} {I0:Bool→World→Prop} {ik:Bool→Nat→Bool} {F:Nat→(Nat→Value)→World→Prop} {St:Nat→World→World→Prop} {kills:Nat→Nat→Bool} {Q:Exit→Act→World→Prop}
  (hok:regionOk ops=true) (hini:∀ m i,ik m i=false→∀ w w',St i w w'→I0 m w→I0 m w') (hpres:∀ i k,i<ops.size→i≠k→kills i k=false→(deepWaits ops 5 k).contains i=false→∀ vals v w w',St i w w'→F k vals w→F k (upd vals i v) w')
  (hstep:∀ i o,ops[i]?=some o→StepAt P ops a0 C I0 ik F St kills i o)
  {listed:Array Bool} {a:Act} {w:World} {vals:Nat→Value} (h:RI ops a0 C I0 ik F kills listed a w vals) {i:Nat} (hi:i ∈ Region.ready .any ops listed) :
  wpOp P ops Q i (fun a' w'=>∃ vals',RI ops a0 C I0 ik F kills (listed.setIfInBounds i true) a' w' vals') a w:=by
 obtain ⟨hun,o,ho,hall⟩:=mem_ready.1 hi;have hlt:i<ops.size:=(Array.getElem?_eq_some_iff.1 ho).1;have hltl:i<listed.size:=by rw [h.size]; exact hlt
 have hunf:listed.getD i false=false:=by
  simp [hltl] at hun ⊢; exact hun
 have ok:=okAt hok ho
 have hdist:∀ i j d,i≠j→dstAt ops i=some d→dstAt ops j≠some d:=fun i j d hij hd=>by
  have hil:=qcv hd;exact (okAt hok (Array.getElem?_eq_getElem hil)).dist j (Ne.symm hij) d hd
 have hw:∀ j ∈ waitsOf ops i,listed.getD j false=true:=fun j hj=>by
  obtain ⟨e,he,hb,rfl⟩:=(qcX ho).1 hj;exact hall e he hb
 obtain ⟨p1,p2,p3,p4⟩:=qbk hdist vals (waitsOf ops i) a0
 have hlook:∀ t ∈ o.looksAt ops,a.tmps[t]?=(putAll ops vals (waitsOf ops i) a0).tmps[t]?:=by
  intro t ht
  by_cases hex:∃ j,dstAt ops j=some t
  ·obtain ⟨j,hj⟩:=hex
   rcases ok.look t ht j hj with hji | hij
   ·by_cases hts:t<a0.tmps.size
    ·rw [h.done j (hw j hji) t hj hts,p3 j hji t hj hts]
    ·rw [Array.getElem?_eq_none (by rw [h.tsize]; exact Nat.le_of_not_lt hts),Array.getElem?_eq_none (by rw [p1]; exact Nat.le_of_not_lt hts)]
   ·have hjl:¬ listed.getD j false=true:=fun hj'=>by rw [h.closed j hj' i hij] at hunf; cases hunf
    rw [h.other t (fun k hk e=>by
     have:k=j:=by
      rcases Nat.decEq k j with hne | he
      ·exact absurd e (hdist j k t (Ne.symm hne) hj)
      ·exact he
     subst this; exact hjl hk)]
    rw [p4 t (fun k hk e=>by
     have:k=j:=by
      rcases Nat.decEq k j with hne | he
      ·exact absurd e (hdist j k t (Ne.symm hne) hj)
      ·exact he
     subst this; exact hjl (hw k hk))]
  ·have hno:∀ j,dstAt ops j≠some t:=fun j e=>hex ⟨j,e⟩;rw [h.other t (fun j _=>hno j),p4 t (fun j _=>hno j)]
 have heval:∀ x ∈ o.op.operands,a.eval x=(putAll ops vals (waitsOf ops i) a0).eval x:=by
  intro x hx
  cases x with
  | tmp t =>
   have:=hlook t (List.mem_append_left _ (List.mem_filterMap.2 ⟨.tmp t,by simpa using hx,rfl⟩));simp only [Act.eval,Array.getD_eq_getD_getElem?,this]
  | _=>rfl
 have hexec:execOp a.eval o=execOp (putAll ops vals (waitsOf ops i) a0).eval o:=execOp_congr o ok.sel heval
 have hwant:Region.wanted o (yielded ops a.tmps)=Region.wanted o (yielded ops (putAll ops vals (waitsOf ops i) a0).tmps):=by
  unfold Region.wanted
  cases hg:o.guard with
  | none=>rfl
  | some gw =>
   obtain ⟨g,want⟩:=gw
   have:yielded ops a.tmps g=yielded ops (putAll ops vals (waitsOf ops i) a0).tmps g:=by
    unfold yielded
    cases ht:(ops[g]?).bind (·.dst) with
    | none=>rfl
    | some t =>
     have:=hlook t (by
      refine List.mem_append_right _ ?_;simp [hg,ht])
     simp only [Option.bind_some,this]
   simp only [this]
 have havail:∀ j,availAt ops kills j i=true→F j vals w:=by
  intro j hj;simp only [availAt,Bool.and_eq_true] at hj;obtain ⟨hj1,hj2⟩:=hj;have hjl:=hw j (by simpa using hj1);refine h.facts j hjl fun k hk hkj=>?_
  have hkl:k<ops.size:=by
   rcases Nat.lt_or_ge k ops.size with h' | h'
   ·exact h'
   ·rw [← h.size] at h'; simp [Array.getElem?_eq_none h'] at hk
  have:=(List.all_eq_true.1 hj2) k (List.mem_range.2 hkl);simp only [Bool.or_eq_true,beq_iff_eq,Bool.not_eq_true'] at this
  rcases this with ((this | this) | this) | this
  ·subst this; rw [hunf] at hk; cases hk
  ·exact absurd this hkj
  ·exact this
  ·have:=qa0 (L:=fun j=>listed.getD j false=true) h.closed 5 k hk i (by simpa using this);simp only [hunf] at this; cases this
 have hini0:∀ m,availIni ops (ik m) i=true→I0 m w:=by
  intro m hj2;refine h.ini m fun k hk=>?_
  have hkl:k<ops.size:=by
   rcases Nat.lt_or_ge k ops.size with h' | h'
   ·exact h'
   ·rw [← h.size] at h'; simp [Array.getElem?_eq_none h'] at hk
  have:=(List.all_eq_true.1 hj2) k (List.mem_range.2 hkl);simp only [Bool.or_eq_true,beq_iff_eq,Bool.not_eq_true'] at this
  rcases this with (this | this) | this
  ·subst this; rw [hunf] at hk; cases hk
  ·exact this
  ·have:=qa0 (L:=fun j=>listed.getD j false=true) h.closed 5 k hk i (by simpa using this);simp only [hunf] at this; cases this
 have hend:∀ (v:Value) (w':World),(∃ v',(putAll ops vals (waitsOf ops i) a0).put o.dst v=(putAll ops vals (waitsOf ops i) a0).put o.dst v'∧F i (upd vals i v') w'∧C w'∧St i w w') →
   ∃ vals',RI ops a0 C I0 ik F kills (listed.setIfInBounds i true) (a.put o.dst v) w' vals':=by
  rintro v w' ⟨v',hv,hF,hC,hSt⟩;have hdo:dstAt ops i=o.dst:=by simp [dstAt,ho]
  refine ⟨upd vals i v',⟨by simp [h.size],(qcD _ _ _).trans h.tsize,(qa9 _ _ _).trans h.defers,?_,?_,?_,hC,?_,?_⟩⟩
  ·intro j hj d hd hlt'
   by_cases hji:j=i
   ·subst hji;rw [hdo] at hd;simp only [upd,if_true];rw [hd] at hv ⊢;rw [qcT _ _ _ (by rw [h.tsize]; exact hlt')];have:=congrArg (fun a:Act=>a.tmps[d]?) hv;rw [qcT _ _ _ (by rw [p1]; exact hlt'),qcT _ _ _ (by rw [p1]; exact hlt')] at this;exact this
   ·simp only [upd,hji,if_false];rw [qat _ (Ne.symm hji)] at hj;rw [qbB _ _ _ _ (fun e=>hdist j i d hji hd (hdo.trans e))];exact h.done j hj d hd hlt'
  ·intro t ht;rw [qbB _ _ _ _ (fun e=>ht i (qav _ _ hltl) (hdo.trans e))];refine h.other t fun j hj=>?_
   by_cases hji:j=i
   ·subst hji; rw [hunf] at hj; cases hj
   ·exact ht j (by rw [qat _ (Ne.symm hji)]; exact hj)
  ·intro j hj k hk
   by_cases hki:k=i
   ·subst hki; exact qav _ _ hltl
   ·rw [qat _ (Ne.symm hki)]
    by_cases hji:j=i
    ·subst hji; exact hw k hk
    ·rw [qat _ (Ne.symm hji)] at hj;exact h.closed j hj k hk
  ·intro m hk;refine hini m i (hk i (qav _ _ hltl)) _ _ hSt (h.ini m fun k hk'=>hk k ?_)
   by_cases hki:k=i
   ·subst hki; exact qav _ _ hltl
   ·rw [qat _ (Ne.symm hki)]; exact hk'
  ·intro j hj hk
   by_cases hji:j=i
   ·subst hji; exact hF
   ·have hj0:=hj;rw [qat _ (Ne.symm hji)] at hj
    refine hpres i j hlt (Ne.symm hji) (hk i (qav _ _ hltl) (Ne.symm hji)) (by
     by_cases hc:(deepWaits ops 5 j).contains i=true
     ·have:=qa0 (L:=fun j=>listed.getD j false=true) h.closed 5 j hj i (by simpa using hc);simp only [hunf] at this; cases this
     ·simpa using hc) _ _ _ _ hSt (h.facts j hj fun k hk' hkj=>?_)
    refine hk k ?_ hkj
    by_cases hki:k=i
    ·subst hki; exact qav _ _ hltl
    ·rw [qat _ (Ne.symm hki)]; exact hk'
 have hs:=hstep i o ho w vals h.c hini0 havail;unfold wpOp;simp only [ho];simp only [wpList] at hs;rw [hwant]
 split
 ·rename_i hwt
  rw [if_pos hwt] at hs
  rcases hs with hs | ⟨_,a₀,w₀,hq⟩
  case inr=>exact absurd hq.1 (by simp)
  refine .inl ?_;unfold Oper.wp at *;rw [hexec];generalize (execOp (putAll ops vals (waitsOf ops i) a0).eval o).run P w=r at *
  cases r with
  | ok n w' =>
   cases n <;> simp only [Oper.upon] at hs ⊢
   case value v=>exact hend v w' hs.2
   case skip=>exact hend _ w' hs.2
   case defer d =>
    obtain ⟨_,v,hv,_⟩:=hs;have:=congrArg Act.defers hv;rw [qa9,qa9] at this;exact absurd this (by simp)
   case enter f args =>
    refine Calls.mono hs fun e w'' he=>?_
    cases e with
    | returned v=>exact hend v w'' he.2
    | panicked c=>exact absurd he.1 (by simp)
    | outgrown=>obtain ⟨_,_,hq⟩:=he; exact absurd hq.1 (by simp)
   case row row args=>exact Rows.mono hs fun v w'' he=>hend v w'' he.2
  | halt x w' =>
   cases x <;> simp only [Oper.upon] at hs ⊢
   exact absurd hs.1 (by simp)
 ·rename_i hwt
  rw [if_neg hwt] at hs;exact hend _ _ hs.2
theorem count_set {l:Array Bool} {i:Nat} (hi:i<l.size) (hf:l.getD i false=false) {n:Nat} (hn:l.toList.countP (fun b=>!b)≤n+1):(l.setIfInBounds i true).toList.countP (fun b=>!b)≤n:=by
 have hf':l.toList[i]'(by simpa using hi)=false:=by simpa [hi] using hf
 rw [Array.toList_setIfInBounds,List.countP_set (by simpa using hi)];rw [hf',if_pos (by rfl),if_neg (by simp)];omega
theorem all_listed (hok:regionOk ops=true) {listed:Array Bool} (hs:listed.size=ops.size) (hr:Region.ready .any ops listed=[]):∀ n,∀ i,i<n→i<ops.size→listed.getD i false=true:=by
 intro n
 induction n with
 | zero=>intro i h; omega
 | succ n ih =>
  intro i hin hi
  by_cases hl:listed.getD i false=true
  ·exact hl
  ·exfalso
   have ho:ops[i]?=some ops[i]:=Array.getElem?_eq_getElem hi;have ok:=okAt hok ho
   have:i ∈ Region.ready .any ops listed:=by
    refine mem_ready.2 ⟨?_,ops[i],ho,fun e he hb=>?_⟩
    ·have:i<listed.size:=by rw [hs]; exact hi
     simp [this] at hl ⊢; exact hl
    ·have hlt:=ok.before e.on ((qcX ho).2 ⟨e,he,hb,rfl⟩);exact ih e.on (by omega) (by omega)
   rw [hr] at this
   cases this
theorem qa4 {id:Nat} {a0:Act} {w0:World} {Q:Exit→Act→World→Prop} (C:World→Prop) (I0:Bool→World→Prop) (ik:Bool→Nat→Bool) (F:Nat→(Nat→Value)→World→Prop) (St:Nat→World→World→Prop) (kills:Nat→Nat→Bool)
  (hm:P.follows .mixedOrders=true) (hok:regionOk ops=true) (hC:C w0.drew) (hI:∀ m,I0 m w0.drew) (hini:∀ m i,ik m i=false→∀ w w',St i w w'→I0 m w→I0 m w')
  (hpres:∀ i k,i<ops.size→i≠k→kills i k=false→(deepWaits ops 5 k).contains i=false→∀ vals v w w',St i w w'→F k vals w→F k (upd vals i v) w')
  (hstep:∀ i o,ops[i]?=some o→StepAt P ops a0 C I0 ik F St kills i o)
  (hfin:∀ w vals,C w→(∀ j,j<ops.size→aliveAt ops kills j=true→F j vals w)→Q .normal (putAll ops vals (List.range ops.size) a0) w) :
  (Code.region id ops true).wp P Q a0 w0:=by
 have hdist:∀ i j d,i≠j→dstAt ops i=some d→dstAt ops j≠some d:=fun i j d hij hd=>by
  have hil:=qcv hd;exact (okAt hok (Array.getElem?_eq_getElem hil)).dist j (Ne.symm hij) d hd
 have final:∀ listed a w vals,RI ops a0 C I0 ik F kills listed a w vals→Region.ready .any ops listed=[]→Q .normal a w:=by
  intro listed a w vals h hr;have hall:∀ j,j<ops.size→listed.getD j false=true:=fun j hj=>all_listed hok h.size hr (j+1) j (by omega) hj;obtain ⟨p1,p2,p3,p4⟩:=qbk hdist vals (List.range ops.size) a0
  have ha:a=putAll ops vals (List.range ops.size) a0:=by
   have ht:a.tmps=(putAll ops vals (List.range ops.size) a0).tmps:=by
    apply Array.ext_getElem?;intro t
    by_cases hex:∃ j,dstAt ops j=some t
    ·obtain ⟨j,hj⟩:=hex;have hjl:=qcv hj
     by_cases hts:t<a0.tmps.size
     ·rw [h.done j (hall j hjl) t hj hts,p3 j (List.mem_range.2 hjl) t hj hts]
     ·rw [Array.getElem?_eq_none (by rw [h.tsize]; exact Nat.le_of_not_lt hts),Array.getElem?_eq_none (by rw [p1]; exact Nat.le_of_not_lt hts)]
    ·have hno:∀ j,dstAt ops j≠some t:=fun j e=>hex ⟨j,e⟩;rw [h.other t (fun j _=>hno j),p4 t (fun j _=>hno j)]
   have hd:a.defers=(putAll ops vals (List.range ops.size) a0).defers:=h.defers.trans p2.symm
   cases a
   simp only at ht hd;rw [ht,hd]
  rw [ha];refine hfin w vals h.c fun j hj hal=>h.facts j (hall j hj) fun k hk hkj=>?_
  have hkl:k<ops.size:=by
   rcases Nat.lt_or_ge k ops.size with h' | h'
   ·exact h'
   ·rw [← h.size] at h'; simp [Array.getElem?_eq_none h'] at hk
  have:=(List.all_eq_true.1 hal) k (List.mem_range.2 hkl)
  simpa [hkj] using this
 refine wp_region_any hm ?_
 have key:∀ (fuel:Nat) (listed:Array Bool) (a:Act) (w:World) (vals:Nat→Value),listed.toList.countP (fun b=>!b)≤fuel→RI ops a0 C I0 ik F kills listed a w vals→wpAny P .any ops Q fuel listed a w:=by
  intro fuel
  induction fuel with
  | zero =>
   intro listed a w vals hc h
   have hr:Region.ready .any ops listed=[]:=by
    refine List.eq_nil_iff_forall_not_mem.2 fun i hi=>?_;obtain ⟨hun,o,ho,_⟩:=mem_ready.1 hi;have hlt:i<listed.size:=by rw [h.size]; exact (Array.getElem?_eq_some_iff.1 ho).1
    have h0:listed.toList.countP (fun b=>!b)=0:=by omega
    rw [List.countP_eq_zero] at h0;have:=h0 (listed[i]) (by simp);simp [hlt] at hun;simp [hun] at this
   exact ⟨hr,final listed a w vals h hr⟩
  | succ fuel ih =>
   intro listed a w vals hc h;refine ⟨fun hr=>final listed a w vals h hr,fun i hi=>?_⟩;obtain ⟨hun,o,ho,_⟩:=mem_ready.1 hi;have hlt:i<listed.size:=by rw [h.size]; exact (Array.getElem?_eq_some_iff.1 ho).1
   refine wpOp_mono (fun a' w' ⟨vals',h'⟩=>ih _ _ _ vals' (count_set hlt (by simp [hlt] at hun ⊢; exact hun) hc) h') (h.step (Q:=Q) hok hini hpres hstep hi)
 refine key _ _ _ _ (fun _=>undef) ?_ ⟨by simp,rfl,rfl,?_,?_,?_,hC,fun m _=>hI m,?_⟩
 ·have:=List.countP_le_length (p:=fun b:Bool=>!b) (l:=(Array.replicate ops.size false).toList)
  simpa using this
 ·intro j hj; simp [Array.getElem?_replicate] at hj; split at hj <;> simp at hj
 ·intro t _; rfl
 ·intro j hj; simp [Array.getElem?_replicate] at hj; split at hj <;> simp at hj
 ·intro j hj; simp [Array.getElem?_replicate] at hj; split at hj <;> simp at hj
def puts (vals:Nat→Value):List (Nat × Option Tmp)→Act→Act
 | [],a=>a
 | (j,d) :: r,a=>puts vals r (a.put d (vals j))
def GoodEnd (o:Oper) (ai:Act) (R:Value→World→Prop):Exit→Act→World→Prop:=fun e a' w'=>e=.normal∧∃ v,a'=ai.put o.dst v∧R v w'
def fct (Fs:List ((Nat→Value)→World→Prop)) (i:Nat):(Nat→Value)→World→Prop:=(Fs[i]?).getD fun _ _=>True
def stp (Sts:List (World→World→Prop)) (i:Nat):World→World→Prop:=(Sts[i]?).getD Eq
def StepsL (p:Nat→Oper→Prop):Nat→List Oper→Prop
 | _,[]=>True
 | k,o :: r=>p k o∧StepsL p (k+1) r
theorem qbY {p:Nat→Oper→Prop}:∀ {l:List Oper} {k:Nat},StepsL p k l→∀ i o,l[i]?=some o→p (k+i) o
 | [],_,_,i,o,h=>by simp at h
 | o :: r,k,h,0,o',ho=>by simp at ho; subst ho; exact h.1
 | o :: r,k,h,i+1,o',ho=>by
  have:=qbY h.2 i o' (by simpa using ho)
  rwa [show k+1+i=k+(i+1) by omega] at this
def Keeps (kill skip:Nat→Bool) (i:Nat) (S:World→World→Prop):Nat→List ((Nat→Value)→World→Prop)→Prop
 | _,[]=>True
 | k,F :: r=>(i=k∨kill k=true∨skip k=true∨∀ vals v w w',S w w'→F vals w→F (upd vals i v) w')∧Keeps kill skip i S (k+1) r
theorem keeps_spec {kill skip:Nat→Bool} {i:Nat} {S:World→World→Prop}:∀ {Fs:List ((Nat→Value)→World→Prop)} {k:Nat},Keeps kill skip i S k Fs →
  ∀ j,i≠k+j→kill (k+j)=false→skip (k+j)=false→∀ vals v w w',S w w'→fct Fs j vals w→fct Fs j (upd vals i v) w'
 | [],_,_,j,_,_,_,vals,v,w,w',_,hf=>trivial
 | F :: r,k,h,0,hj,hk,hs,vals,v,w,w',hS,hf=>by
  rcases h.1 with h1 | h1 | h1 | h1
  ·exact absurd h1 hj
  ·simp only [Nat.add_zero] at hk; rw [hk] at h1; cases h1
  ·simp only [Nat.add_zero] at hs; rw [hs] at h1; cases h1
  ·exact h1 vals v w w' hS hf
 | F :: r,k,h,j+1,hj,hk,hs,vals,v,w,w',hS,hf=>by
  have e:k+(j+1)=k+1+j:=by omega
  rw [e] at hj hk hs;exact keeps_spec h.2 j hj hk hs vals v w w' hS hf
def KeepsL (kills skips:Nat→Nat→Bool) (Fs:List ((Nat→Value)→World→Prop)):Nat→List (World→World→Prop)→Prop
 | _,[]=>True
 | i,S :: r=>Keeps (kills i) (skips i) i S 0 Fs∧KeepsL kills skips Fs (i+1) r
theorem qb4 {kills skips:Nat→Nat→Bool} {Fs:List ((Nat→Value)→World→Prop)}:∀ {Sts:List (World→World→Prop)} {i:Nat},KeepsL kills skips Fs i Sts →
  ∀ j k,i+j≠k→kills (i+j) k=false→skips (i+j) k=false→j<Sts.length→∀ vals v w w',stp Sts j w w'→fct Fs k vals w→fct Fs k (upd vals (i+j) v) w'
 | [],i,_,j,k,_,_,_,hl,_,_,_,_,_,_=>by simp at hl
 | S :: r,i,h,0,k,hj,hk,hs,_,vals,v,w,w',hS,hf=>by
  have:=keeps_spec h.1 k (by simpa using hj) (by simpa using hk) (by simpa using hs) vals v w w' hS;exact this hf
 | S :: r,i,h,j+1,k,hj,hk,hs,hl,vals,v,w,w',hS,hf=>by
  have e:i+(j+1)=i+1+j:=by omega
  rw [e] at hj hk hs ⊢;exact qb4 h.2 j k hj hk hs (by simpa using hl) vals v w w' hS hf
def IniL (ik:Nat→Bool) (I0:World→Prop):Nat→List (World→World→Prop)→Prop
 | _,[]=>True
 | i,S :: r=>(ik i=true∨∀ w w',S w w'→I0 w→I0 w')∧IniL ik I0 (i+1) r
theorem qcZ {ik:Nat→Bool} {I0:World→Prop}:∀ {Sts:List (World→World→Prop)} {i:Nat},IniL ik I0 i Sts→∀ j,ik (i+j)=false→∀ w w',stp Sts j w w'→I0 w→I0 w'
 | [],i,_,j,_,w,w',hS,h=>by
  have:w=w':=hS;subst this; exact h
 | S :: r,i,h,0,hj,w,w',hS,h0=>by
  rcases h.1 with h1 | h1
  ·simp only [Nat.add_zero] at hj; rw [hj] at h1; cases h1
  ·exact h1 w w' hS h0
 | S :: r,i,h,j+1,hj,w,w',hS,h0=>by
  have e:i+(j+1)=i+1+j:=by omega
  rw [e] at hj;exact qcZ h.2 j hj w w' hS h0
theorem qak {id:Nat} {l:List Oper} {a0:Act} {w0:World} {Q:Exit→Act→World→Prop} (C:World→Prop) (I0:Bool→World→Prop) (ik:Bool→Nat→Bool) (Fs:List ((Nat→Value)→World→Prop)) (Sts:List (World→World→Prop)) (kills:Nat→Nat→Bool) (ps:List (Nat × Option Tmp))
  (hm:P.follows .mixedOrders=true) (hok:regionOk l.toArray=true) (hlen:Sts.length=l.length) (hps:∀ vals,putAll l.toArray vals (List.range l.toArray.size) a0=puts vals ps a0) (hC:C w0.drew) (hI:∀ m,I0 m w0.drew) (hini:∀ m,IniL (ik m) (I0 m) 0 Sts)
  (hpres:KeepsL kills (fun i k=>(deepWaits l.toArray 5 k).contains i) Fs 0 Sts)
  (hstep:StepsL (StepAt P l.toArray a0 C I0 ik (fct Fs) (stp Sts) kills) 0 l)
  (hfin:∀ w vals,C w→(∀ j,j<l.toArray.size→aliveAt l.toArray kills j=true→fct Fs j vals w)→Q .normal (puts vals ps a0) w) :
  (Code.region id l.toArray true).wp P Q a0 w0 :=
 qa4 C I0 ik (fct Fs) (stp Sts) kills hm hok hC hI (fun m i hi w w' hS h=>by
   have:=qcZ (hini m) i (by simpa using hi) w w' hS;exact this h)
  (fun i k hil hik hk hs vals v w w' hS hf=>by
   have:=qb4 hpres i k (by simpa using hik) (by simpa using hk) (by simpa using hs) (by rw [hlen]; simpa using hil) vals v w w' hS;rw [Nat.zero_add] at this;exact this hf)
  (fun i o ho=>by
   have:=qbY hstep i o (by simpa using ho)
   simpa using this)
  (fun w vals hc hf=>by rw [hps]; exact hfin w vals hc hf)
theorem act_put (t:Array Value) (d:List Deferred) (i:Tmp) (v:Value):Act.put ⟨t,d⟩ (some i) v=⟨t.setIfInBounds i v,d⟩:=rfl
theorem act_put_none (a:Act) (v:Value):Act.put a none v=a:=rfl
def EndOf (E:Act→World→Prop):Exit→Act→World→Prop:=fun e a w=>e=.normal∧E a w
theorem EndOf.mk {E:Act→World→Prop} {a:Act} {w:World} (h:E a w):EndOf E .normal a w:=⟨rfl,h⟩
theorem qaa {a0:Act} {C:World→Prop} {I0:Bool→World→Prop} {ik:Bool→Nat→Bool} {F:Nat→(Nat→Value)→World→Prop} {St:Nat→World→World→Prop} {kills:Nat→Nat→Bool} {i:Nat} {o:Oper} (ps:List (Nat × Option Tmp))
  (hps:∀ vals,putAll ops vals (waitsOf ops i) a0=puts vals ps a0) (hg:o.guard=none)
  (h:∀ w vals,C w→(∀ m,availIni ops (ik m) i=true→I0 m w)→(∀ j,availAt ops kills j i=true→F j vals w) →
   ∀ E:Act→World→Prop,(∀ v w',F i (upd vals i v) w'→C w'→St i w w'→E ((puts vals ps a0).put o.dst v) w')→wpList P #[] (EndOf E) [o] (puts vals ps a0) w) :
  StepAt P ops a0 C I0 ik F St kills i o:=by
 intro w vals hc h0 hf;have h1:=h w vals hc h0 hf (fun a' w'=>∃ v,a'=(puts vals ps a0).put o.dst v∧F i (upd vals i v) w'∧C w'∧St i w w') fun v w' h1 h2 h3=>⟨v,rfl,h1,h2,h3⟩;rw [hps];show wpList P ops (EndOf fun a' w'=>∃ v,a'=(puts vals ps a0).put o.dst v∧F i (upd vals i v) w'∧C w'∧St i w w') [o] (puts vals ps a0) w;have hw:∀ (O:Array Oper) (t:Array Value),Region.wanted o (yielded O t)=true:=fun O t=>by simp [Region.wanted,hg]
 simp only [wpList,hw,if_true] at h1 ⊢;exact h1
theorem qa8 {a0:Act} {C:World→Prop} {I0:Bool→World→Prop} {ik:Bool→Nat→Bool} {F:Nat→(Nat→Value)→World→Prop} {St:Nat→World→World→Prop} {kills:Nat→Nat→Bool} {i:Nat} {o:Oper} (ps:List (Nat × Option Tmp))
  (hps:∀ vals,putAll ops vals (waitsOf ops i) a0=puts vals ps a0) (g:Nat) (t:Tmp) (want:Bool) (hg:o.guard=some (g,want)) (hd:dstAt ops g=some t)
  (hyes:∀ w vals,C w→(∀ m,availIni ops (ik m) i=true→I0 m w)→(∀ j,availAt ops kills j i=true→F j vals w)→(puts vals ps a0).tmps[t]?=some (.bool want) →
   ∀ E:Act→World→Prop,(∀ v w',F i (upd vals i v) w'→C w'→St i w w'→E ((puts vals ps a0).put o.dst v) w')→wpList P #[] (EndOf E) [{ o with guard:=none }] (puts vals ps a0) w)
  (hno:∀ w vals,C w→(∀ m,availIni ops (ik m) i=true→I0 m w)→(∀ j,availAt ops kills j i=true→F j vals w)→(puts vals ps a0).tmps[t]?≠some (.bool want)→F i (upd vals i undef) w∧St i w w) :
  StepAt P ops a0 C I0 ik F St kills i o:=by
 intro w vals hc h0 hf;rw [hps];show wpList P ops (EndOf fun a' w'=>∃ v,a'=(puts vals ps a0).put o.dst v∧F i (upd vals i v) w'∧C w'∧St i w w') [o] (puts vals ps a0) w;have hd':(ops[g]?).bind (·.dst)=some t:=hd
 by_cases hy:(puts vals ps a0).tmps[t]?=some (.bool want)
 ·have h1:=hyes w vals hc h0 hf hy (fun a' w'=>∃ v,a'=(puts vals ps a0).put o.dst v∧F i (upd vals i v) w'∧C w'∧St i w w') fun v w' h1 h2 h3=>⟨v,rfl,h1,h2,h3⟩;have hw:Region.wanted o (yielded ops (puts vals ps a0).tmps)=true:=by simp [Region.wanted,hg,yielded,hd',hy]
  have hw':∀ (O:Array Oper) (t:Array Value),Region.wanted { o with guard:=none } (yielded O t)=true:=fun O t=>by simp [Region.wanted]
  simp only [wpList,hw,hw',if_true] at h1 ⊢;have he:∀ ρ,execOp ρ { o with guard:=none }=execOp ρ o:=fun ρ=>rfl;have ha:∀ a w,Oper.asks P { o with guard:=none } a w=Oper.asks P o a w:=fun a w=>rfl;rw [ha] at h1;exact h1
 ·obtain ⟨hF,hS⟩:=hno w vals hc h0 hf hy
  have hw:¬ Region.wanted o (yielded ops (puts vals ps a0).tmps)=true:=by
   simp only [Region.wanted,hg,yielded,hd',Option.bind_some,beq_iff_eq];intro e;apply hy
   split at e
   ·rename_i b hb; simp at e; subst e; exact hb
   ·cases e
  simp only [wpList,if_neg hw];exact ⟨rfl,undef,rfl,hF,hc,hS⟩
end
end Go.Proofs.YtjmfkinedhmglaaDoor
namespace Go.Proofs.YtjmfkinedhmglaaDoor
set_option linter.unusedSimpArgs false
set_option linter.unusedVariables false
set_option maxRecDepth 100000
set_option maxHeartbeats 4000000
open Go.RowKit
section
variable {P:Program}
theorem qcI {w:World} {ops:Array Oper} {rest:List Oper} {o:Oper} {a:Act} {Q:Exit→Act→World→Prop}
  (hw:Region.wanted o (yielded ops a.tmps)=true) (h:wpList P ops Q ({ o with guard:=none } :: rest) a w):wpList P ops Q (o :: rest) a w:=by
 have hw':∀ (O:Array Oper) (t:Array Value),Region.wanted { o with guard:=none } (yielded O t)=true:=fun O t=>by simp [Region.wanted]
 simp only [wpList,hw,hw',if_true] at h ⊢;have ha:∀ a w,Oper.asks P { o with guard:=none } a w=Oper.asks P o a w:=fun a w=>rfl;rw [ha] at h;exact h
end
end Go.Proofs.YtjmfkinedhmglaaDoor
namespace Go.Proofs.YtjmfkinedhmglaaDoor
set_option linter.unusedSimpArgs false
set_option linter.unusedVariables false
set_option maxRecDepth 100000
set_option maxHeartbeats 4000000
section
variable {P:Program}
theorem qaB (ops:Array Oper) (v1 v2:Nat→Value):∀ (l:List Nat) (a:Act),(∀ j ∈ l,v1 j=v2 j)→putAll ops v1 l a=putAll ops v2 l a
 | [],_,_=>rfl
 | j :: r,a,h=>by
  rw [putAll,putAll,h j (List.mem_cons_self ..)];exact qaB ops v1 v2 r _ fun k hk=>h k (List.mem_cons_of_mem _ hk)
def DetStep (P:Program) (ops:Array Oper) (C D:World→Prop) (Φ:(Nat→Value)→Prop) (i:Nat) (a0:Act) (o:Oper) (v:Value):Prop :=
 ∀ vals,Φ vals→∀ w,C w→∀ E:Act→World→Prop,(∀ w',D w'→E ((putAll ops vals (waitsOf ops i) a0).put o.dst v) w')→wpList P ops (EndOf E) [o] (putAll ops vals (waitsOf ops i) a0) w
def DetL (P:Program) (ops:Array Oper) (C D:World→Prop) (a0:Act) (K:((Nat→Value)→Prop)→Prop):Nat→List Oper→((Nat→Value)→Prop)→Prop
 | _,[],Φ=>K Φ
 | i,[o],Φ=>∃ v,DetStep P ops C D Φ i a0 o v∧K fun vals=>Φ vals∧vals i=v
 | i,o :: r :: rest,Φ=>∃ v,DetStep P ops C C Φ i a0 o v∧DetL P ops C D a0 K (i+1) (r :: rest) fun vals=>Φ vals∧vals i=v
theorem detL_all {ops:Array Oper} {C D:World→Prop} {a0:Act} {K:((Nat→Value)→Prop)→Prop}:∀ (rest:List Oper) (i:Nat) (Φ:(Nat→Value)→Prop),
  (∀ v1 v2:Nat→Value,(∀ j,j<i→v1 j=v2 j)→Φ v1→Φ v2)→(∃ vals,Φ vals)→DetL P ops C D a0 K i rest Φ →
  ∃ (vs:Nat→Value) (Ψ:(Nat→Value)→Prop),K Ψ∧Φ vs∧(∀ vals,(∀ j,j<i+rest.length→vals j=vs j)→Ψ vals) ∧
   ∀ j o,rest[j]?=some o→∀ vals w,C w→(∀ k,k<i+j→vals k=vs k)→∀ E:Act→World→Prop,(∀ w',(if j+1=rest.length then D w' else C w')→E ((putAll ops vals (waitsOf ops (i+j)) a0).put o.dst (vs (i+j))) w')→wpList P ops (EndOf E) [o] (putAll ops vals (waitsOf ops (i+j)) a0) w
 | [],i,Φ,hΦ,⟨v0,h0⟩,h=>⟨v0,Φ,h,h0,fun vals hv=>hΦ _ _ (fun j hj=>(hv j (by simpa using hj)).symm) h0,fun j o ho=>by simp at ho⟩
 | [o],i,Φ,hΦ,⟨v0,h0⟩,⟨v,h1,h2⟩=>by
  refine ⟨upd v0 i v,_,h2,hΦ v0 _ (fun j hj=>by simp [upd,Nat.ne_of_lt hj]) h0,fun vals hv=>⟨hΦ v0 _ (fun j hj=>?_) h0,?_⟩,fun j o' ho w=>?_⟩
  ·have:=hv j (by simp; omega);rw [this]; simp [upd,Nat.ne_of_lt hj]
  ·have:=hv i (by simp);rw [this]; simp [upd]
  ·cases j with
   | zero =>
    simp at ho;subst ho;intro w' hc hv;have hΦv:Φ w:=hΦ v0 _ (fun j hj=>by rw [hv j (by omega)]; simp [upd,Nat.ne_of_lt hj]) h0;intro E hE;refine h1 w hΦv w' hc E fun w'' hd=>?_;have:=hE w'' (by simpa using hd)
    simpa [upd] using this
   | succ j=>simp at ho
 | o :: r :: rest,i,Φ,hΦ,⟨v0,h0⟩,⟨v,h1,h2⟩=>by
  obtain ⟨vs,Ψ,k1,k2,k3,k4⟩:=detL_all (r :: rest) (i+1) (fun vals=>Φ vals∧vals i=v)
   (fun v1 v2 hv hp=>⟨hΦ v1 v2 (fun j hj=>hv j (by omega)) hp.1,by rw [← hv i (by omega)]; exact hp.2⟩)
   ⟨upd v0 i v,hΦ v0 _ (fun j hj=>by simp [upd,Nat.ne_of_lt hj]) h0,by simp [upd]⟩ h2
  refine ⟨vs,Ψ,k1,k2.1,fun vals hv=>k3 vals fun j hj=>hv j (by simp only [List.length_cons] at hj ⊢; omega),fun j o' ho vals w hc hv=>?_⟩
  cases j with
  | zero =>
   simp at ho;subst ho;have hΦv:Φ vals:=hΦ vs _ (fun j hj=>(hv j (by omega)).symm) k2.1;intro E hE;refine h1 vals hΦv w hc E fun w'' hd=>?_;have:¬ 0+1=(o :: r :: rest).length:=by simp
   have h4:=hE w'' (by rw [if_neg this]; exact hd);rw [Nat.add_zero,k2.2] at h4;exact h4
  | succ j =>
   have h3:=k4 j o' (by simpa using ho) vals w hc (fun k hk=>hv k (by omega));intro E hE;rw [show i+(j+1)=i+1+j by omega] at hE ⊢;refine h3 E fun w'' hd=>hE w'' ?_;have e:(j+1+1=(o :: r :: rest).length)=(j+1=(r :: rest).length):=by simp
   simp only [e];exact hd
theorem qaj {id:Nat} {l:List Oper} {a0:Act} {w0:World} {Q:Exit→Act→World→Prop} (C D:World→Prop) (ps:List (Nat × Option Tmp))
  (hm:P.follows .mixedOrders=true) (hok:regionOk l.toArray=true) (hpos:0<l.length)
  (hlast:((List.range (l.length - 1)).all fun i=>(deepWaits l.toArray 5 (l.length - 1)).contains i)=true)
  (hps:∀ vals,putAll l.toArray vals (List.range l.toArray.size) a0=puts vals ps a0) (hC:C w0.drew)
  (h:DetL P l.toArray C D a0 (fun Φ=>∀ vals,Φ vals→∀ w,D w→Q .normal (puts vals ps a0) w) 0 l (fun _=>True)) :
  (Code.region id l.toArray true).wp P Q a0 w0:=by
 obtain ⟨vs,Ψ,k1,_,k3,k4⟩:=detL_all (P:=P) l 0 (fun _=>True) (fun _ _ _ h=>h) ⟨fun _=>undef,trivial⟩ h
 have hafter:∀ i,i<l.length→i≠l.length - 1→(deepWaits l.toArray 5 (l.length - 1)).contains i=true:=fun i hi hne =>
  (List.all_eq_true.1 hlast) i (List.mem_range.2 (by omega))
 refine qa4 (fun _=>True) (fun _=>C) (fun _ i=>i == l.length - 1) (fun i vals w=>vals i=vs i∧(i=l.length - 1→D w)) (fun i w w'=>if i=l.length - 1 then True else (C w→C w')) (fun _ _=>false) hm hok trivial (fun _=>hC) ?_ ?_ ?_ ?_
 ·intro _ i hi w w' hS hc;have hne:¬ i=l.length - 1:=by simpa using hi
  rw [if_neg hne] at hS;exact hS hc
 ·intro i k hi hik _ hdk vals v w w' _ hF;refine ⟨by simp [upd,Ne.symm hik,hF.1],fun hk=>?_⟩;subst hk;have:=hafter i (by simpa using hi) hik;rw [this] at hdk
  cases hdk
 ·intro i o ho w vals _ hini hav;have hil:i<l.length:=by have:=(Array.getElem?_eq_some_iff.1 ho).1; simpa using this
  have hok1:=okAt hok ho
  have hcw:C w:=hini false (by
   unfold availIni;rw [List.all_eq_true];intro k hk;have hk':k<l.length:=by simpa using hk
   by_cases hki:k=i
   ·simp [hki]
   ·by_cases hkl:k=l.length - 1
    ·have:=hafter i hil (by omega);subst hkl;simp only [this,Bool.or_true]
    ·simp [hkl])
  have hvals:∀ j ∈ waitsOf l.toArray i,vals j=vs j:=fun j hj=>by
   have h1:availAt l.toArray (fun _ _=>false) j i=true:=by
    unfold availAt;simp [hj]
   exact (hav j h1).1
  have hcon:putAll l.toArray vals (waitsOf l.toArray i) a0=putAll l.toArray vs (waitsOf l.toArray i) a0:=qaB _ _ _ _ _ hvals;have h3:=k4 i o (by simpa using ho) vs w hcw (fun _ _=>rfl);rw [Nat.zero_add] at h3;rw [hcon];refine h3 (fun a' w'=>∃ v,a'=(putAll l.toArray vs (waitsOf l.toArray i) a0).put o.dst v∧(upd vals i v i=vs i∧(i=l.length - 1→D w'))∧True∧(if i=l.length - 1 then True else (C w→C w'))) fun w' hd=>?_;refine ⟨vs i,rfl,⟨by simp [upd],fun hi=>?_⟩,trivial,?_⟩
  ·rw [if_pos (by omega)] at hd; exact hd
  ·by_cases hi:i=l.length - 1
   ·rw [if_pos hi]; trivial
   ·rw [if_neg hi];intro _;rw [if_neg (by omega)] at hd; exact hd
 ·intro w vals _ hF;rw [hps];have hal:∀ j,aliveAt l.toArray (fun _ _=>false) j=true:=fun j=>by simp [aliveAt]
  have hD:D w:=(hF (l.length - 1) (by simp; omega) (hal _)).2 rfl;exact k1 vals (k3 vals fun j hj=>(hF j (by simpa using hj) (hal _)).1) w hD
def tailP (P:Program) (ops:Array Oper) (a0:Act) (Kf:(Nat→Value)→World→Prop):Nat→List Oper→(Nat→Value)→World→Prop
 | _,[],vals,w=>Kf vals w
 | i,o :: r,vals,w=>∀ E:Act→World→Prop,(∀ v w',tailP P ops a0 Kf (i+1) r (upd vals i v) w'→E ((putAll ops vals (waitsOf ops i) a0).put o.dst v) w')→wpList P ops (EndOf E) [o] (putAll ops vals (waitsOf ops i) a0) w
def mergeV (d:Nat) (vs vals:Nat→Value):Nat→Value:=fun j=>if j<d then vs j else vals j
theorem qco {d i:Nat} (vs vals:Nat→Value) (v:Value) (h:d≤i):mergeV d vs (upd vals i v)=upd (mergeV d vs vals) i v:=by
 funext j
 unfold mergeV upd
 by_cases h1:j=i
 ·subst h1;have:¬ j<d:=by omega
  simp [this]
 ·simp [h1]
theorem wp_region_tail {id:Nat} {l:List Oper} {a0:Act} {w0:World} {Q:Exit→Act→World→Prop} (C:World→Prop) (d:Nat) (ps:List (Nat × Option Tmp))
  (hm:P.follows .mixedOrders=true) (hok:regionOk l.toArray=true) (hd:d<l.length)
  (hlast:((List.range l.length).all fun k=>decide (k<d) || (((List.range k).all fun i=>(deepWaits l.toArray 5 k).contains i) && (k == d || (waitsOf l.toArray k).contains (k - 1))))=true)
  (hps:∀ vals,putAll l.toArray vals (List.range l.toArray.size) a0=puts vals ps a0) (hC:C w0.drew)
  (h:DetL P l.toArray C C a0 (fun Φ=>∀ vals,Φ vals→∀ w,C w→tailP P l.toArray a0 (fun vals w=>Q .normal (puts vals ps a0) w) d (l.drop d) vals w) 0 (l.take d) (fun _=>True)) :
  (Code.region id l.toArray true).wp P Q a0 w0:=by
 obtain ⟨vs,Ψ,k1,_,k3,k4⟩:=detL_all (P:=P) (l.take d) 0 (fun _=>True) (fun _ _ _ h=>h) ⟨fun _=>undef,trivial⟩ h;have htl:(l.take d).length=d:=by rw [List.length_take]; omega
 rw [htl] at k4;simp only [Nat.zero_add,htl] at k3 k4
 have hdeep:∀ k,k<l.length→d≤k→∀ i,i<k→(deepWaits l.toArray 5 k).contains i=true:=fun k hk hdk i hi=>by
  have h1:=(List.all_eq_true.1 hlast) k (List.mem_range.2 hk);simp only [Bool.or_eq_true,decide_eq_true_eq,Bool.and_eq_true] at h1
  rcases h1 with h1 | h1
  ·omega
  ·exact (List.all_eq_true.1 h1.1) i (List.mem_range.2 hi)
 have hprev:∀ k,k<l.length→d<k→(waitsOf l.toArray k).contains (k - 1)=true:=fun k hk hdk=>by
  have h1:=(List.all_eq_true.1 hlast) k (List.mem_range.2 hk);simp only [Bool.or_eq_true,decide_eq_true_eq,Bool.and_eq_true,beq_iff_eq] at h1
  rcases h1 with h1 | ⟨_,h1 | h1⟩
  ·omega
  ·omega
  ·exact h1
 let Kf:(Nat→Value)→World→Prop:=fun vals w=>Q .normal (puts vals ps a0) w
 let kills:Nat→Nat→Bool:=fun i k=>decide (d≤k) && (decide (k<i) || decide (l.length≤k))
 refine qa4 (fun _=>True) (fun _=>C) (fun _ i=>decide (d≤i))
  (fun i vals w=>if i<d then vals i=vs i else tailP P l.toArray a0 Kf (i+1) (l.drop (i+1)) (mergeV d vs vals) w)
  (fun i w w'=>if d≤i then True else (C w→C w')) kills hm hok trivial (fun _=>hC) ?_ ?_ ?_ ?_
 ·intro _ i hi w w' hS hc;have hne:¬ d≤i:=by simpa using hi
  rw [if_neg hne] at hS;exact hS hc
 ·intro i k hi hik hk hdk vals v w w' _ hF
  by_cases hkd:k<d
  ·simp only [hkd,if_true] at hF ⊢;simp [upd,Ne.symm hik,hF]
  ·exfalso
   have hki:¬ k<i:=by
    intro hlt
    have h9:kills i k=true:=by
     have a1:d≤k:=by omega
     simp [kills,a1,hlt]
    rw [h9] at hk; cases hk
   have hkl:k<l.length∨l.length≤k:=Nat.lt_or_ge _ _
   rcases hkl with hkl | hkl
   ·have:=hdeep k hkl (by omega) i (by omega);rw [this] at hdk; cases hdk
   ·have h9:kills i k=true:=by
     have a1:d≤k:=by omega
     simp [kills,a1,hkl]
    rw [h9] at hk; cases hk
 ·intro i o ho w vals _ hini hav;have hil:i<l.length:=by have:=(Array.getElem?_eq_some_iff.1 ho).1; simpa using this
  have hok1:=okAt hok ho
  by_cases hid:i<d
  ·have hcw:C w:=hini false (by
    unfold availIni;rw [List.all_eq_true];intro k hk;have hk':k<l.length:=by simpa using hk
    by_cases hki:k=i
    ·simp [hki]
    ·by_cases hkd:d≤k
     ·have:=hdeep k hk' hkd i (by omega);simp only [this,Bool.or_true]
     ·simp [hkd])
   have hvals:∀ j ∈ waitsOf l.toArray i,vals j=vs j:=fun j hj=>by
    have hji:j<d:=by
     have:=hok1.before j hj;omega
    have h1:availAt l.toArray kills j i=true:=by
     unfold availAt;simp only [kills,Bool.and_eq_true];refine ⟨by simpa using hj,?_⟩;rw [List.all_eq_true];intro k _;have:¬ d≤j:=by omega
     simp [this]
    have:=hav j h1;dsimp only at this;rw [if_pos hji] at this;exact this
   have hcon:putAll l.toArray vals (waitsOf l.toArray i) a0=putAll l.toArray vs (waitsOf l.toArray i) a0:=qaB _ _ _ _ _ hvals;have ho2:(l.take d)[i]?=some o:=by rw [List.getElem?_take,if_pos hid]; simpa using ho
   have h3:=k4 i o ho2 vs w hcw (fun _ _=>rfl);rw [hcon];refine h3 _ fun w' hd'=>?_;refine ⟨vs i,rfl,?_,trivial,?_⟩
   ·dsimp only; rw [if_pos hid]; simp [upd]
   ·have hcw':C w':=by
     by_cases he:i+1=d
     ·rw [if_pos he] at hd'; exact hd'
     ·rw [if_neg he] at hd'; exact hd'
    dsimp only;rw [if_neg (by omega)];exact fun _=>hcw'
  ·have hget:l.drop i=o :: l.drop (i+1):=by
    have h1:l[i]?=some o:=by simpa using ho
    have h2:=List.drop_eq_getElem_cons hil;rw [List.getElem?_eq_getElem hil] at h1;rw [h2,Option.some.inj h1]
   have hvals:∀ j ∈ waitsOf l.toArray i,vals j=mergeV d vs vals j:=fun j hj=>by
    unfold mergeV
    split
    ·rename_i hjd
     have h1:availAt l.toArray kills j i=true:=by
      unfold availAt;simp only [kills,Bool.and_eq_true];refine ⟨by simpa using hj,?_⟩;rw [List.all_eq_true];intro k _;have:¬ d≤j:=by omega
      simp [this]
     have:=hav j h1;dsimp only at this;rw [if_pos hjd] at this;exact this
    ·rfl
   have hcon:putAll l.toArray vals (waitsOf l.toArray i) a0=putAll l.toArray (mergeV d vs vals) (waitsOf l.toArray i) a0:=qaB _ _ _ _ _ hvals
   have htail:tailP P l.toArray a0 Kf i (l.drop i) (mergeV d vs vals) w:=by
    by_cases he:i=d
    ·subst he
     have hcw:C w:=hini false (by
      unfold availIni;rw [List.all_eq_true];intro k hk;have hk':k<l.length:=by simpa using hk
      by_cases hki:k=i
      ·simp [hki]
      ·by_cases hkd:i≤k
       ·have:=hdeep k hk' hkd i (by omega);simp only [this,Bool.or_true]
       ·simp [hkd])
     exact k1 _ (k3 _ fun j hj=>by simp [mergeV,hj]) w hcw
    ·have hav1:availAt l.toArray kills (i - 1) i=true:=by
      unfold availAt;rw [Bool.and_eq_true];refine ⟨hprev i hil (by omega),?_⟩;rw [List.all_eq_true];intro k hk;have hk':k<l.length:=by simpa using hk
      by_cases hki:k=i
      ·simp [hki]
      ·by_cases hki2:i<k
       ·have:=hdeep k hk' (by omega) i hki2;simp only [this,Bool.or_true]
       ·have:¬ i - 1<k∨k=i - 1:=by omega
        rcases this with h1 | h1
        ·have h8:¬ l.length≤i - 1:=by omega
         simp [kills,h1,h8]
        ·simp [h1]
     have:=hav (i - 1) hav1;dsimp only at this;rw [if_neg (by omega),show i - 1+1=i by omega] at this;exact this
   rw [hget] at htail;rw [hcon];refine htail _ fun v w' ht=>?_;refine ⟨v,rfl,?_,trivial,?_⟩
   ·dsimp only;rw [if_neg hid,qco _ _ _ (by omega)];exact ht
   ·dsimp only; rw [if_pos (by omega)]; trivial
 ·intro w vals _ hF;have hn1:l.length - 1<l.length:=by omega
  have halive:aliveAt l.toArray kills (l.length - 1)=true:=by
   unfold aliveAt;rw [List.all_eq_true];intro k hk;have hk':k<l.length:=by simpa using hk
   have:¬ l.length - 1<k:=by omega
   have h8:¬ l.length≤l.length - 1:=by omega
   simp [kills,this,h8]
  have h1:=hF (l.length - 1) (by simpa using hn1) halive;rw [if_neg (by omega),show l.length - 1+1=l.length by omega,List.drop_length] at h1
  have hcon:putAll l.toArray vals (List.range l.toArray.size) a0=putAll l.toArray (mergeV d vs vals) (List.range l.toArray.size) a0:=qaB _ _ _ _ _ fun j hj=>by
   unfold mergeV
   split
   ·rename_i hjd
    have hal:aliveAt l.toArray kills j=true:=by
     unfold aliveAt;rw [List.all_eq_true];intro k _;have:¬ d≤j:=by omega
     simp [kills,this]
    have:=hF j (by simpa using (List.mem_range.1 hj)) hal;rw [if_pos hjd] at this;exact this
   ·rfl
  rw [hcon,hps];exact h1
section
variable {ops:Array Oper} {C D:World→Prop} {a0:Act} {K:((Nat→Value)→Prop)→Prop} {i:Nat} {Φ:(Nat→Value)→Prop} {o:Oper}
theorem dP {v:Value} (ps:List (Nat × Option Tmp)) (hps:∀ vals,putAll ops vals (waitsOf ops i) a0=puts vals ps a0) (hg:o.guard=none)
  (h:∀ vals,Φ vals→∀ w,C w→∀ E:Act→World→Prop,(∀ w',D w'→E ((puts vals ps a0).put o.dst v) w')→wpList P #[] (EndOf E) [o] (puts vals ps a0) w):DetStep P ops C D Φ i a0 o v:=by
 intro vals hp w hc E hE;rw [hps] at hE ⊢;have h1:=h vals hp w hc E hE;have hw:∀ (O:Array Oper) (t:Array Value),Region.wanted o (yielded O t)=true:=fun O t=>by simp [Region.wanted,hg]
 simp only [wpList,hw,if_true] at h1 ⊢;exact h1
theorem dY {v:Value} (ps:List (Nat × Option Tmp)) (hps:∀ vals,putAll ops vals (waitsOf ops i) a0=puts vals ps a0) (g:Nat) (t:Tmp) (want:Bool) (hg:o.guard=some (g,want)) (hd:dstAt ops g=some t)
  (hy:∀ vals,Φ vals→(puts vals ps a0).tmps[t]?=some (.bool want))
  (h:∀ vals,Φ vals→∀ w,C w→∀ E:Act→World→Prop,(∀ w',D w'→E ((puts vals ps a0).put o.dst v) w')→wpList P #[] (EndOf E) [{ o with guard:=none }] (puts vals ps a0) w):DetStep P ops C D Φ i a0 o v:=by
 intro vals hp w hc E hE;rw [hps] at hE ⊢;have h1:=h vals hp w hc E hE;have hd':(ops[g]?).bind (·.dst)=some t:=hd;have hw:Region.wanted o (yielded ops (puts vals ps a0).tmps)=true:=by simp [Region.wanted,hg,yielded,hd',hy vals hp]
 have hw':∀ (O:Array Oper) (t:Array Value),Region.wanted { o with guard:=none } (yielded O t)=true:=fun O t=>by simp [Region.wanted]
 simp only [wpList,hw,hw',if_true] at h1 ⊢;have ha:∀ a w,Oper.asks P { o with guard:=none } a w=Oper.asks P o a w:=fun a w=>rfl;rw [ha] at h1;exact h1
theorem qbg (ps:List (Nat × Option Tmp)) (hps:∀ vals,putAll ops vals (waitsOf ops i) a0=puts vals ps a0) (g:Nat) (t:Tmp) (want:Bool) (hg:o.guard=some (g,want)) (hd:dstAt ops g=some t)
  (hy:∀ vals,Φ vals→(puts vals ps a0).tmps[t]?=some (.bool !want)) (hCD:∀ w,C w→D w):DetStep P ops C D Φ i a0 o undef:=by
 intro vals hp w hc E hE;rw [hps] at hE ⊢;have hd':(ops[g]?).bind (·.dst)=some t:=hd
 have hw:¬ Region.wanted o (yielded ops (puts vals ps a0).tmps)=true:=by
  simp [Region.wanted,hg,yielded,hd',hy vals hp]
 simp only [wpList,if_neg hw];exact ⟨rfl,hE w (hCD w hc)⟩
theorem qbp {Kf:(Nat→Value)→World→Prop} {r:List Oper} {vals:Nat→Value} {w:World} (ps:List (Nat × Option Tmp)) (hps:∀ vals,putAll ops vals (waitsOf ops i) a0=puts vals ps a0) (hg:o.guard=none)
  (h:∀ E:Act→World→Prop,(∀ v w',tailP P ops a0 Kf (i+1) r (upd vals i v) w'→E ((puts vals ps a0).put o.dst v) w')→wpList P #[] (EndOf E) [o] (puts vals ps a0) w):tailP P ops a0 Kf i (o :: r) vals w:=by
 intro E hE;rw [hps] at hE ⊢;have h1:=h E hE;have hw:∀ (O:Array Oper) (t:Array Value),Region.wanted o (yielded O t)=true:=fun O t=>by simp [Region.wanted,hg]
 simp only [wpList,hw,if_true] at h1 ⊢;exact h1
theorem tail_end {Kf:(Nat→Value)→World→Prop} {vals:Nat→Value} {w:World} (h:Kf vals w):tailP P ops a0 Kf i [] vals w:=h
theorem qbL (vals:Nat→Value) (i:Nat) (v:Value):upd vals i v i=v:=if_pos rfl
theorem upd_ne {vals:Nat→Value} {i j:Nat} {v:Value} (h:j≠i):upd vals i v j=vals j:=if_neg h
theorem yN_ {v:Value} {r:Oper} {rest:List Oper} (hs:DetStep P ops C C Φ i a0 o v) (h:DetL P ops C D a0 K (i+1) (r :: rest) fun vals=>Φ vals∧vals i=v):DetL P ops C D a0 K i (o :: r :: rest) Φ:=⟨v,hs,h⟩
theorem yL_ {v:Value} (hs:DetStep P ops C D Φ i a0 o v) (h:K fun vals=>Φ vals∧vals i=v):DetL P ops C D a0 K i [o] Φ:=⟨v,hs,h⟩
end
end
section
variable {P:Program}
def DetStepQ (P:Program) (ops:Array Oper) (C:World→Prop) (p:Bool) (Φ:(Nat→Value)→Prop) (i:Nat) (a0:Act) (o:Oper) (v:Value):Prop :=
 ∀ vals,Φ vals→∀ w,(p=false→C w)→∀ E:Act→World→Prop,(∀ w',(if p=true then w'=w else C w')→E ((putAll ops vals (waitsOf ops i) a0).put o.dst v) w')→wpList P ops (EndOf E) [o] (putAll ops vals (waitsOf ops i) a0) w
def DetQ (P:Program) (ops:Array Oper) (C:World→Prop) (pu:Nat→Bool) (a0:Act) (K:((Nat→Value)→Prop)→Prop):Nat→List Oper→((Nat→Value)→Prop)→Prop
 | _,[],Φ=>K Φ
 | i,o :: rest,Φ=>∃ v,DetStepQ P ops C (pu i) Φ i a0 o v∧DetQ P ops C pu a0 K (i+1) rest fun vals=>Φ vals∧vals i=v
theorem detQ_all {ops:Array Oper} {C:World→Prop} {pu:Nat→Bool} {a0:Act} {K:((Nat→Value)→Prop)→Prop}:∀ (rest:List Oper) (i:Nat) (Φ:(Nat→Value)→Prop),
  (∀ v1 v2:Nat→Value,(∀ j,j<i→v1 j=v2 j)→Φ v1→Φ v2)→(∃ vals,Φ vals)→DetQ P ops C pu a0 K i rest Φ →
  ∃ (vs:Nat→Value) (Ψ:(Nat→Value)→Prop),K Ψ∧Φ vs∧(∀ vals,(∀ j,j<i+rest.length→vals j=vs j)→Ψ vals) ∧
   ∀ j o,rest[j]?=some o→∀ vals w,(pu (i+j)=false→C w)→(∀ k,k<i+j→vals k=vs k)→∀ E:Act→World→Prop,(∀ w',(if pu (i+j)=true then w'=w else C w')→E ((putAll ops vals (waitsOf ops (i+j)) a0).put o.dst (vs (i+j))) w')→wpList P ops (EndOf E) [o] (putAll ops vals (waitsOf ops (i+j)) a0) w
 | [],i,Φ,hΦ,⟨v0,h0⟩,h=>⟨v0,Φ,h,h0,fun vals hv=>hΦ _ _ (fun j hj=>(hv j (by simpa using hj)).symm) h0,fun j o ho=>by simp at ho⟩
 | o :: rest,i,Φ,hΦ,⟨v0,h0⟩,⟨v,h1,h2⟩=>by
  obtain ⟨vs,Ψ,k1,k2,k3,k4⟩:=detQ_all rest (i+1) (fun vals=>Φ vals∧vals i=v)
   (fun v1 v2 hv hp=>⟨hΦ v1 v2 (fun j hj=>hv j (by omega)) hp.1,by rw [← hv i (by omega)]; exact hp.2⟩)
   ⟨upd v0 i v,hΦ v0 _ (fun j hj=>by simp [upd,Nat.ne_of_lt hj]) h0,by simp [upd]⟩ h2
  refine ⟨vs,Ψ,k1,k2.1,fun vals hv=>k3 vals fun j hj=>hv j (by simp only [List.length_cons] at hj ⊢; omega),fun j o' ho vals w hc hv=>?_⟩
  cases j with
  | zero =>
   simp at ho;subst ho;have hΦv:Φ vals:=hΦ vs _ (fun j hj=>(hv j (by omega)).symm) k2.1;intro E hE;refine h1 vals hΦv w hc E fun w'' hd=>?_;have h4:=hE w'' hd;rw [Nat.add_zero,k2.2] at h4;exact h4
  | succ j =>
   rw [show i+(j+1)=i+1+j by omega] at hc hv ⊢;exact k4 j o' (by simpa using ho) vals w hc hv
theorem qbh {id:Nat} {l:List Oper} {a0:Act} {w0:World} {Q:Exit→Act→World→Prop} (C:World→Prop) (pu:Nat→Bool) (d:Nat) (ps:List (Nat × Option Tmp))
  (hm:P.follows .mixedOrders=true) (hok:regionOk l.toArray=true) (hd:d<l.length)
  (hlast:((List.range l.length).all fun k=>decide (k<d) || (((List.range k).all fun i=>(deepWaits l.toArray 5 k).contains i || (pu i && decide (i<d))) && (k == d || (waitsOf l.toArray k).contains (k - 1))))=true)
  (hps:∀ vals,putAll l.toArray vals (List.range l.toArray.size) a0=puts vals ps a0) (hC:C w0.drew)
  (h:DetQ P l.toArray C pu a0 (fun Φ=>∀ vals,Φ vals→∀ w,C w→tailP P l.toArray a0 (fun vals w=>Q .normal (puts vals ps a0) w) d (l.drop d) vals w) 0 (l.take d) (fun _=>True)) :
  (Code.region id l.toArray true).wp P Q a0 w0:=by
 obtain ⟨vs,Ψ,k1,_,k3,k4⟩:=detQ_all (P:=P) (l.take d) 0 (fun _=>True) (fun _ _ _ h=>h) ⟨fun _=>undef,trivial⟩ h;have htl:(l.take d).length=d:=by rw [List.length_take]; omega
 simp only [Nat.zero_add,htl] at k3 k4
 have hdeep:∀ k,k<l.length→d≤k→∀ i,i<k→(deepWaits l.toArray 5 k).contains i=true∨(pu i=true∧i<d):=fun k hk hdk i hi=>by
  have h1:=(List.all_eq_true.1 hlast) k (List.mem_range.2 hk);simp only [Bool.or_eq_true,decide_eq_true_eq,Bool.and_eq_true] at h1
  rcases h1 with h1 | h1
  ·omega
  ·have h2:=(List.all_eq_true.1 h1.1) i (List.mem_range.2 hi)
   simpa only [Bool.or_eq_true,Bool.and_eq_true,decide_eq_true_eq] using h2
 have hprev:∀ k,k<l.length→d<k→(waitsOf l.toArray k).contains (k - 1)=true:=fun k hk hdk=>by
  have h1:=(List.all_eq_true.1 hlast) k (List.mem_range.2 hk);simp only [Bool.or_eq_true,decide_eq_true_eq,Bool.and_eq_true,beq_iff_eq] at h1
  rcases h1 with h1 | ⟨_,h1 | h1⟩
  ·omega
  ·omega
  ·exact h1
 let Kf:(Nat→Value)→World→Prop:=fun vals w=>Q .normal (puts vals ps a0) w
 let kills:Nat→Nat→Bool:=fun i k=>decide (d≤k) && (decide (k<i) || decide (l.length≤k))
 refine qa4 (fun _=>True) (fun _=>C) (fun _ i=>decide (d≤i))
  (fun i vals w=>if i<d then vals i=vs i else tailP P l.toArray a0 Kf (i+1) (l.drop (i+1)) (mergeV d vs vals) w)
  (fun i w w'=>if d≤i then True else if pu i=true then w'=w else (C w→C w')) kills hm hok trivial (fun _=>hC) ?_ ?_ ?_ ?_
 ·intro _ i hi w w' hS hc;have hne:¬ d≤i:=by simpa using hi
  rw [if_neg hne] at hS
  by_cases hp:pu i=true
  ·rw [if_pos hp] at hS; rw [hS]; exact hc
  ·rw [if_neg hp] at hS; exact hS hc
 ·intro i k hi hik hk hdk vals v w w' hS hF
  by_cases hkd:k<d
  ·simp only [hkd,if_true] at hF ⊢;simp [upd,Ne.symm hik,hF]
  ·have hki:¬ k<i:=by
    intro hlt
    have h9:kills i k=true:=by
     have a1:d≤k:=by omega
     simp [kills,a1,hlt]
    rw [h9] at hk; cases hk
   have hkl:k<l.length∨l.length≤k:=Nat.lt_or_ge _ _
   rcases hkl with hkl | hkl
   ·rcases hdeep k hkl (by omega) i (by omega) with h8 | ⟨h8,h7⟩
    ·rw [h8] at hdk; cases hdk
    ·simp only [hkd,if_false] at hF ⊢;rw [if_neg (by omega),if_pos h8] at hS;subst hS
     have e:mergeV d vs (upd vals i v)=mergeV d vs vals:=by
      funext j
      unfold mergeV upd
      by_cases h1:j=i
      ·subst h1; simp [h7]
      ·simp [h1]
     rw [e]; exact hF
   ·have h9:kills i k=true:=by
     have a1:d≤k:=by omega
     simp [kills,a1,hkl]
    rw [h9] at hk; cases hk
 ·intro i o ho w vals _ hini hav;have hil:i<l.length:=by have:=(Array.getElem?_eq_some_iff.1 ho).1; simpa using this
  have hok1:=okAt hok ho
  by_cases hid:i<d
  ·have hcw:pu i=false→C w:=fun hpf=>hini false (by
    unfold availIni;rw [List.all_eq_true];intro k hk;have hk':k<l.length:=by simpa using hk
    by_cases hki:k=i
    ·simp [hki]
    ·by_cases hkd:d≤k
     ·rcases hdeep k hk' hkd i (by omega) with h8 | ⟨h8,_⟩
      ·simp only [h8,Bool.or_true]
      ·rw [h8] at hpf; cases hpf
     ·simp [hkd])
   have hvals:∀ j ∈ waitsOf l.toArray i,vals j=vs j:=fun j hj=>by
    have hji:j<d:=by
     have:=hok1.before j hj;omega
    have h1:availAt l.toArray kills j i=true:=by
     unfold availAt;simp only [kills,Bool.and_eq_true];refine ⟨by simpa using hj,?_⟩;rw [List.all_eq_true];intro k _;have:¬ d≤j:=by omega
     simp [this]
    have:=hav j h1;dsimp only at this;rw [if_pos hji] at this;exact this
   have hcon:putAll l.toArray vals (waitsOf l.toArray i) a0=putAll l.toArray vs (waitsOf l.toArray i) a0:=qaB _ _ _ _ _ hvals;have ho2:(l.take d)[i]?=some o:=by rw [List.getElem?_take,if_pos hid]; simpa using ho
   have h3:=k4 i o ho2 vs w hcw (fun _ _=>rfl);rw [hcon];refine h3 _ fun w' hd'=>?_;refine ⟨vs i,rfl,?_,trivial,?_⟩
   ·dsimp only; rw [if_pos hid]; simp [upd]
   ·dsimp only;rw [if_neg (by omega)]
    by_cases hp:pu i=true
    ·rw [if_pos hp] at hd' ⊢; exact hd'
    ·rw [if_neg hp] at hd' ⊢; exact fun _=>hd'
  ·have hget:l.drop i=o :: l.drop (i+1):=by
    have h1:l[i]?=some o:=by simpa using ho
    have h2:=List.drop_eq_getElem_cons hil;rw [List.getElem?_eq_getElem hil] at h1;rw [h2,Option.some.inj h1]
   have hvals:∀ j ∈ waitsOf l.toArray i,vals j=mergeV d vs vals j:=fun j hj=>by
    unfold mergeV
    split
    ·rename_i hjd
     have h1:availAt l.toArray kills j i=true:=by
      unfold availAt;simp only [kills,Bool.and_eq_true];refine ⟨by simpa using hj,?_⟩;rw [List.all_eq_true];intro k _;have:¬ d≤j:=by omega
      simp [this]
     have:=hav j h1;dsimp only at this;rw [if_pos hjd] at this;exact this
    ·rfl
   have hcon:putAll l.toArray vals (waitsOf l.toArray i) a0=putAll l.toArray (mergeV d vs vals) (waitsOf l.toArray i) a0:=qaB _ _ _ _ _ hvals
   have htail:tailP P l.toArray a0 Kf i (l.drop i) (mergeV d vs vals) w:=by
    by_cases he:i=d
    ·subst he
     have hcw:C w:=hini false (by
      unfold availIni;rw [List.all_eq_true];intro k hk;have hk':k<l.length:=by simpa using hk
      by_cases hki:k=i
      ·simp [hki]
      ·by_cases hkd:i≤k
       ·rcases hdeep k hk' hkd i (by omega) with h8 | ⟨_,h8⟩
        ·simp only [h8,Bool.or_true]
        ·omega
       ·simp [hkd])
     exact k1 _ (k3 _ fun j hj=>by simp [mergeV,hj]) w hcw
    ·have hav1:availAt l.toArray kills (i - 1) i=true:=by
      unfold availAt;rw [Bool.and_eq_true];refine ⟨hprev i hil (by omega),?_⟩;rw [List.all_eq_true];intro k hk;have hk':k<l.length:=by simpa using hk
      by_cases hki:k=i
      ·simp [hki]
      ·by_cases hki2:i<k
       ·rcases hdeep k hk' (by omega) i hki2 with h8 | ⟨_,h8⟩
        ·simp only [h8,Bool.or_true]
        ·omega
       ·have:¬ i - 1<k∨k=i - 1:=by omega
        rcases this with h1 | h1
        ·have h8:¬ l.length≤i - 1:=by omega
         simp [kills,h1,h8]
        ·simp [h1]
     have:=hav (i - 1) hav1;dsimp only at this;rw [if_neg (by omega),show i - 1+1=i by omega] at this;exact this
   rw [hget] at htail;rw [hcon];refine htail _ fun v w' ht=>?_;refine ⟨v,rfl,?_,trivial,?_⟩
   ·dsimp only;rw [if_neg hid,qco _ _ _ (by omega)];exact ht
   ·dsimp only; rw [if_pos (by omega)]; trivial
 ·intro w vals _ hF;have hn1:l.length - 1<l.length:=by omega
  have halive:aliveAt l.toArray kills (l.length - 1)=true:=by
   unfold aliveAt;rw [List.all_eq_true];intro k hk;have hk':k<l.length:=by simpa using hk
   have:¬ l.length - 1<k:=by omega
   have h8:¬ l.length≤l.length - 1:=by omega
   simp [kills,this,h8]
  have h1:=hF (l.length - 1) (by simpa using hn1) halive;rw [if_neg (by omega),show l.length - 1+1=l.length by omega,List.drop_length] at h1
  have hcon:putAll l.toArray vals (List.range l.toArray.size) a0=putAll l.toArray (mergeV d vs vals) (List.range l.toArray.size) a0:=qaB _ _ _ _ _ fun j hj=>by
   unfold mergeV
   split
   ·rename_i hjd
    have hal:aliveAt l.toArray kills j=true:=by
     unfold aliveAt;rw [List.all_eq_true];intro k _;have:¬ d≤j:=by omega
     simp [kills,this]
    have:=hF j (by simpa using (List.mem_range.1 hj)) hal;rw [if_pos hjd] at this;exact this
   ·rfl
  rw [hcon,hps];exact h1
section
variable {ops:Array Oper} {C D:World→Prop} {a0:Act} {K:((Nat→Value)→Prop)→Prop} {i:Nat} {Φ:(Nat→Value)→Prop} {o:Oper}
theorem dQ {v:Value} (h:DetStep P ops C C Φ i a0 o v):DetStepQ P ops C false Φ i a0 o v:=fun vals hp w hc E hE=>h vals hp w (hc rfl) E fun w' hc'=>hE w' (by simpa using hc')
theorem detStepQ_pure {v:Value} (ps:List (Nat × Option Tmp)) (hps:∀ vals,putAll ops vals (waitsOf ops i) a0=puts vals ps a0) (hg:o.guard=none)
  (h:∀ vals,Φ vals→∀ w,∀ E:Act→World→Prop,E ((puts vals ps a0).put o.dst v) w→wpList P #[] (EndOf E) [o] (puts vals ps a0) w):DetStepQ P ops C true Φ i a0 o v:=by
 intro vals hp w hc E hE;have h0:=hE w (by simp);rw [hps] at h0 ⊢;have h1:=h vals hp w E h0;have hw:∀ (O:Array Oper) (t:Array Value),Region.wanted o (yielded O t)=true:=fun O t=>by simp [Region.wanted,hg]
 simp only [wpList,hw,if_true] at h1 ⊢;exact h1
theorem DetQ.next {v:Value} {rest:List Oper} {pu:Nat→Bool} (hs:DetStepQ P ops C (pu i) Φ i a0 o v) (h:DetQ P ops C pu a0 K (i+1) rest fun vals=>Φ vals∧vals i=v):DetQ P ops C pu a0 K i (o :: rest) Φ:=⟨v,hs,h⟩
theorem DetQ.done {pu:Nat→Bool} (h:K Φ):DetQ P ops C pu a0 K i [] Φ:=h
end
end
end Go.Proofs.YtjmfkinedhmglaaDoor
namespace Go.Proofs.YtjmfkinedhmglaaDoor
set_option linter.unusedSimpArgs false
set_option linter.unusedVariables false
set_option maxRecDepth 100000
set_option maxHeartbeats 4000000
open Go.RowKit
section
variable {P:Program}
def DetStepR (P:Program) (ops:Array Oper) (C:World→Prop) (p:Bool) (Φ:(Nat→Value)→Prop) (i:Nat) (a0:Act) (o:Oper) (v:Value):Prop :=
 ∀ vals,Φ vals→∀ w,C w→∀ E:Act→World→Prop,(∀ w',(if p=true then w'=w else C w')→E ((putAll ops vals (waitsOf ops i) a0).put o.dst v) w')→wpList P ops (EndOf E) [o] (putAll ops vals (waitsOf ops i) a0) w
def DetR (P:Program) (ops:Array Oper) (C:World→Prop) (pu:Nat→Bool) (a0:Act) (K:((Nat→Value)→Prop)→Prop):Nat→List Oper→((Nat→Value)→Prop)→Prop
 | _,[],Φ=>K Φ
 | i,o :: rest,Φ=>∃ v,DetStepR P ops C (pu i) Φ i a0 o v∧DetR P ops C pu a0 K (i+1) rest fun vals=>Φ vals∧vals i=v
theorem detR_all {ops:Array Oper} {C:World→Prop} {pu:Nat→Bool} {a0:Act} {K:((Nat→Value)→Prop)→Prop}:∀ (rest:List Oper) (i:Nat) (Φ:(Nat→Value)→Prop),
  (∀ v1 v2:Nat→Value,(∀ j,j<i→v1 j=v2 j)→Φ v1→Φ v2)→(∃ vals,Φ vals)→DetR P ops C pu a0 K i rest Φ →
  ∃ (vs:Nat→Value) (Ψ:(Nat→Value)→Prop),K Ψ∧Φ vs∧(∀ vals,(∀ j,j<i+rest.length→vals j=vs j)→Ψ vals) ∧
   ∀ j o,rest[j]?=some o→∀ vals w,C w→(∀ k,k<i+j→vals k=vs k)→∀ E:Act→World→Prop,(∀ w',(if pu (i+j)=true then w'=w else C w')→E ((putAll ops vals (waitsOf ops (i+j)) a0).put o.dst (vs (i+j))) w')→wpList P ops (EndOf E) [o] (putAll ops vals (waitsOf ops (i+j)) a0) w
 | [],i,Φ,hΦ,⟨v0,h0⟩,h=>⟨v0,Φ,h,h0,fun vals hv=>hΦ _ _ (fun j hj=>(hv j (by simpa using hj)).symm) h0,fun j o ho=>by simp at ho⟩
 | o :: rest,i,Φ,hΦ,⟨v0,h0⟩,⟨v,h1,h2⟩=>by
  obtain ⟨vs,Ψ,k1,k2,k3,k4⟩:=detR_all rest (i+1) (fun vals=>Φ vals∧vals i=v)
   (fun v1 v2 hv hp=>⟨hΦ v1 v2 (fun j hj=>hv j (by omega)) hp.1,by rw [← hv i (by omega)]; exact hp.2⟩)
   ⟨upd v0 i v,hΦ v0 _ (fun j hj=>by simp [upd,Nat.ne_of_lt hj]) h0,by simp [upd]⟩ h2
  refine ⟨vs,Ψ,k1,k2.1,fun vals hv=>k3 vals fun j hj=>hv j (by simp only [List.length_cons] at hj ⊢; omega),fun j o' ho vals w hc hv=>?_⟩
  cases j with
  | zero =>
   simp at ho;subst ho;have hΦv:Φ vals:=hΦ vs _ (fun j hj=>(hv j (by omega)).symm) k2.1;intro E hE;refine h1 vals hΦv w hc E fun w'' hd=>?_;have h4:=hE w'' hd;rw [Nat.add_zero,k2.2] at h4;exact h4
  | succ j =>
   rw [show i+(j+1)=i+1+j by omega] at hv ⊢;exact k4 j o' (by simpa using ho) vals w hc hv
def tailP2 (P:Program) (ops:Array Oper) (a0:Act) (d2:Nat) (Kf:(Nat→Value)→World→Prop):Nat→List Oper→(Nat→Value)→World→Prop
 | _,[],vals,w=>Kf vals w
 | i,o :: r,vals,w=>∀ E:Act→World→Prop,(∀ v w',(i<d2→Below w.heap.size w w')→tailP2 P ops a0 d2 Kf (i+1) r (upd vals i v) w'→E ((putAll ops vals (waitsOf ops i) a0).put o.dst v) w')→wpList P ops (EndOf E) [o] (putAll ops vals (waitsOf ops i) a0) w
theorem wp_region_tail2 {id:Nat} {l:List Oper} {a0:Act} {w0:World} {Q:Exit→Act→World→Prop} (C:World→Prop) (pu:Nat→Bool) (d d2:Nat) (ps:List (Nat × Option Tmp))
  (hm:P.follows .mixedOrders=true) (hok:regionOk l.toArray=true) (hd:d<l.length)
  (hlast:((List.range l.length).all fun k=>decide (k<d) || (((List.range k).all fun i=>(deepWaits l.toArray 5 k).contains i || (pu i && decide (i<d) && decide (k<d2))) && (k == d || (waitsOf l.toArray k).contains (k - 1))))=true)
  (hps:∀ vals,putAll l.toArray vals (List.range l.toArray.size) a0=puts vals ps a0) (hC:C w0.drew) (hCs:∀ w w',Below w.heap.size w w'→C w→C w') (hdd:d≤d2)
  (h:DetR P l.toArray C pu a0 (fun Φ=>∀ vals,Φ vals→∀ w,C w→tailP2 P l.toArray a0 d2 (fun vals w=>Q .normal (puts vals ps a0) w) d (l.drop d) vals w) 0 (l.take d) (fun _=>True)) :
  (Code.region id l.toArray true).wp P Q a0 w0:=by
 obtain ⟨vs,Ψ,k1,_,k3,k4⟩:=detR_all (P:=P) (l.take d) 0 (fun _=>True) (fun _ _ _ h=>h) ⟨fun _=>undef,trivial⟩ h;have htl:(l.take d).length=d:=by rw [List.length_take]; omega
 simp only [Nat.zero_add,htl] at k3 k4
 have hdeep:∀ k,k<l.length→d≤k→∀ i,i<k→(deepWaits l.toArray 5 k).contains i=true∨((pu i=true∧i<d)∧k<d2):=fun k hk hdk i hi=>by
  have h1:=(List.all_eq_true.1 hlast) k (List.mem_range.2 hk);simp only [Bool.or_eq_true,decide_eq_true_eq,Bool.and_eq_true] at h1
  rcases h1 with h1 | h1
  ·omega
  ·have h2:=(List.all_eq_true.1 h1.1) i (List.mem_range.2 hi)
   simpa only [Bool.or_eq_true,Bool.and_eq_true,decide_eq_true_eq] using h2
 have hprev:∀ k,k<l.length→d<k→(waitsOf l.toArray k).contains (k - 1)=true:=fun k hk hdk=>by
  have h1:=(List.all_eq_true.1 hlast) k (List.mem_range.2 hk);simp only [Bool.or_eq_true,decide_eq_true_eq,Bool.and_eq_true,beq_iff_eq] at h1
  rcases h1 with h1 | ⟨_,h1 | h1⟩
  ·omega
  ·omega
  ·exact h1
 let Kf:(Nat→Value)→World→Prop:=fun vals w=>Q .normal (puts vals ps a0) w
 let kills:Nat→Nat→Bool:=fun i k=>decide (d≤k) && (decide (k<i) || decide (l.length≤k))
 refine qa4 (fun _=>True) (fun _=>C) (fun _ i=>decide (d2≤i))
  (fun i vals w=>if i<d then vals i=vs i else tailP2 P l.toArray a0 d2 Kf (i+1) (l.drop (i+1)) (mergeV d vs vals) w)
  (fun i w w'=>if d2≤i then True else if d≤i then (C w→C w') else if pu i=true then w'=w else (C w→C w')) kills hm hok trivial (fun _=>hC) ?_ ?_ ?_ ?_
 ·intro _ i hi w w' hS hc;have hne:¬ d2≤i:=by simpa using hi
  rw [if_neg hne] at hS
  by_cases hdi:d≤i
  ·rw [if_pos hdi] at hS; exact hS hc
  ·rw [if_neg hdi] at hS
   by_cases hp:pu i=true
   ·rw [if_pos hp] at hS; rw [hS]; exact hc
   ·rw [if_neg hp] at hS; exact hS hc
 ·intro i k hi hik hk hdk vals v w w' hS hF
  by_cases hkd:k<d
  ·simp only [hkd,if_true] at hF ⊢;simp [upd,Ne.symm hik,hF]
  ·have hki:¬ k<i:=by
    intro hlt
    have h9:kills i k=true:=by
     have a1:d≤k:=by omega
     simp [kills,a1,hlt]
    rw [h9] at hk; cases hk
   have hkl:k<l.length∨l.length≤k:=Nat.lt_or_ge _ _
   rcases hkl with hkl | hkl
   ·rcases hdeep k hkl (by omega) i (by omega) with h8 | ⟨⟨h8,h7⟩,h6⟩
    ·rw [h8] at hdk; cases hdk
    ·simp only [hkd,if_false] at hF ⊢;rw [if_neg (by omega),if_neg (by omega),if_pos h8] at hS;subst hS
     have e:mergeV d vs (upd vals i v)=mergeV d vs vals:=by
      funext j
      unfold mergeV upd
      by_cases h1:j=i
      ·subst h1; simp [h7]
      ·simp [h1]
     rw [e]; exact hF
   ·have h9:kills i k=true:=by
     have a1:d≤k:=by omega
     simp [kills,a1,hkl]
    rw [h9] at hk; cases hk
 ·intro i o ho w vals _ hini hav;have hil:i<l.length:=by have:=(Array.getElem?_eq_some_iff.1 ho).1; simpa using this
  have hok1:=okAt hok ho
  by_cases hid:i<d
  ·have hcw:C w:=hini false (by
    unfold availIni;rw [List.all_eq_true];intro k hk;have hk':k<l.length:=by simpa using hk
    by_cases hki:k=i
    ·simp [hki]
    ·by_cases hkd:d2≤k
     ·rcases hdeep k hk' (by omega) i (by omega) with h8 | ⟨_,h8⟩
      ·simp only [h8,Bool.or_true]
      ·omega
     ·simp [hkd])
   have hvals:∀ j ∈ waitsOf l.toArray i,vals j=vs j:=fun j hj=>by
    have hji:j<d:=by
     have:=hok1.before j hj;omega
    have h1:availAt l.toArray kills j i=true:=by
     unfold availAt;simp only [kills,Bool.and_eq_true];refine ⟨by simpa using hj,?_⟩;rw [List.all_eq_true];intro k _;have:¬ d≤j:=by omega
     simp [this]
    have:=hav j h1;dsimp only at this;rw [if_pos hji] at this;exact this
   have hcon:putAll l.toArray vals (waitsOf l.toArray i) a0=putAll l.toArray vs (waitsOf l.toArray i) a0:=qaB _ _ _ _ _ hvals;have ho2:(l.take d)[i]?=some o:=by rw [List.getElem?_take,if_pos hid]; simpa using ho
   have h3:=k4 i o ho2 vs w hcw (fun _ _=>rfl);rw [hcon];refine h3 _ fun w' hd'=>?_;refine ⟨vs i,rfl,?_,trivial,?_⟩
   ·dsimp only; rw [if_pos hid]; simp [upd]
   ·dsimp only;rw [if_neg (by omega),if_neg (by omega)]
    by_cases hp:pu i=true
    ·rw [if_pos hp] at hd' ⊢; exact hd'
    ·rw [if_neg hp] at hd' ⊢; exact fun _=>hd'
  ·have hget:l.drop i=o :: l.drop (i+1):=by
    have h1:l[i]?=some o:=by simpa using ho
    have h2:=List.drop_eq_getElem_cons hil;rw [List.getElem?_eq_getElem hil] at h1;rw [h2,Option.some.inj h1]
   have hvals:∀ j ∈ waitsOf l.toArray i,vals j=mergeV d vs vals j:=fun j hj=>by
    unfold mergeV
    split
    ·rename_i hjd
     have h1:availAt l.toArray kills j i=true:=by
      unfold availAt;simp only [kills,Bool.and_eq_true];refine ⟨by simpa using hj,?_⟩;rw [List.all_eq_true];intro k _;have:¬ d≤j:=by omega
      simp [this]
     have:=hav j h1;dsimp only at this;rw [if_pos hjd] at this;exact this
    ·rfl
   have hcon:putAll l.toArray vals (waitsOf l.toArray i) a0=putAll l.toArray (mergeV d vs vals) (waitsOf l.toArray i) a0:=qaB _ _ _ _ _ hvals
   have htail:tailP2 P l.toArray a0 d2 Kf i (l.drop i) (mergeV d vs vals) w:=by
    by_cases he:i=d
    ·subst he
     have hcw:C w:=hini false (by
      unfold availIni;rw [List.all_eq_true];intro k hk;have hk':k<l.length:=by simpa using hk
      by_cases hki:k=i
      ·simp [hki]
      ·by_cases hkd:d2≤k
       ·rcases hdeep k hk' (by omega) i (by omega) with h8 | ⟨_,h8⟩
        ·simp only [h8,Bool.or_true]
        ·omega
       ·simp [hkd])
     exact k1 _ (k3 _ fun j hj=>by simp [mergeV,hj]) w hcw
    ·have hav1:availAt l.toArray kills (i - 1) i=true:=by
      unfold availAt;rw [Bool.and_eq_true];refine ⟨hprev i hil (by omega),?_⟩;rw [List.all_eq_true];intro k hk;have hk':k<l.length:=by simpa using hk
      by_cases hki:k=i
      ·simp [hki]
      ·by_cases hki2:i<k
       ·rcases hdeep k hk' (by omega) i hki2 with h8 | ⟨⟨_,h8⟩,_⟩
        ·simp only [h8,Bool.or_true]
        ·omega
       ·have:¬ i - 1<k∨k=i - 1:=by omega
        rcases this with h1 | h1
        ·have h8:¬ l.length≤i - 1:=by omega
         simp [kills,h1,h8]
        ·simp [h1]
     have:=hav (i - 1) hav1;dsimp only at this;rw [if_neg (by omega),show i - 1+1=i by omega] at this;exact this
   rw [hget] at htail;rw [hcon];refine htail _ fun v w' hbw ht=>?_;refine ⟨v,rfl,?_,trivial,?_⟩
   ·dsimp only;rw [if_neg hid,qco _ _ _ (by omega)];exact ht
   ·dsimp only
    by_cases h2:d2≤i
    ·rw [if_pos h2]; trivial
    ·rw [if_neg h2,if_pos (by omega)];exact fun hc=>hCs _ _ (hbw (by omega)) hc
 ·intro w vals _ hF;have hn1:l.length - 1<l.length:=by omega
  have halive:aliveAt l.toArray kills (l.length - 1)=true:=by
   unfold aliveAt;rw [List.all_eq_true];intro k hk;have hk':k<l.length:=by simpa using hk
   have:¬ l.length - 1<k:=by omega
   have h8:¬ l.length≤l.length - 1:=by omega
   simp [kills,this,h8]
  have h1:=hF (l.length - 1) (by simpa using hn1) halive;rw [if_neg (by omega),show l.length - 1+1=l.length by omega,List.drop_length] at h1
  have hcon:putAll l.toArray vals (List.range l.toArray.size) a0=putAll l.toArray (mergeV d vs vals) (List.range l.toArray.size) a0:=qaB _ _ _ _ _ fun j hj=>by
   unfold mergeV
   split
   ·rename_i hjd
    have hal:aliveAt l.toArray kills j=true:=by
     unfold aliveAt;rw [List.all_eq_true];intro k _;have:¬ d≤j:=by omega
     simp [kills,this]
    have:=hF j (by simpa using (List.mem_range.1 hj)) hal;rw [if_pos hjd] at this;exact this
   ·rfl
  rw [hcon,hps];exact h1
section
variable {ops:Array Oper} {C D:World→Prop} {a0:Act} {K:((Nat→Value)→Prop)→Prop} {i:Nat} {Φ:(Nat→Value)→Prop} {o:Oper}
theorem DetR.next {v:Value} {rest:List Oper} {pu:Nat→Bool} (hs:DetStepR P ops C (pu i) Φ i a0 o v) (h:DetR P ops C pu a0 K (i+1) rest fun vals=>Φ vals∧vals i=v):DetR P ops C pu a0 K i (o :: rest) Φ:=⟨v,hs,h⟩
theorem DetR.done {pu:Nat→Bool} (h:K Φ):DetR P ops C pu a0 K i [] Φ:=h
end
end
end Go.Proofs.YtjmfkinedhmglaaDoor
namespace Go.Proofs.YtjmfkinedhmglaaDoor
set_option linter.unusedSimpArgs false
set_option linter.unusedVariables false
open Go.RowKit

theorem sP : (∀ (l : List Value) (i : Nat) (a : Value), l.toArray.setIfInBounds i a = (l.set i a).toArray) ∧ (∀ (x : Value) (l : List Value) (a : Value), (x :: l).set 0 a = a :: l) ∧ (∀ (x : Value) (l : List Value) (i : Nat) (a : Value), (x :: l).set (i + 1) a = x :: l.set i a) ∧
    (∀ (t : Array Value) (d : List Deferred) (i : Tmp) (v : Value), Act.put ⟨t, d⟩ (some i) v = ⟨t.setIfInBounds i v, d⟩) ∧ (∀ (a : Act) (v : Value), Act.put a none v = a) ∧
    (∀ (vals : Nat → Value) (a : Act), puts vals [] a = a) ∧ (∀ (vals : Nat → Value) (j : Nat) (d : Option Tmp) (r : List (Nat × Option Tmp)) (a : Act), puts vals ((j, d) :: r) a = puts vals r (a.put d (vals j))) :=
  ⟨fun _ _ _ => List.setIfInBounds_toArray _ _ _, fun _ _ _ => rfl, fun _ _ _ _ => rfl, fun _ _ _ _ => rfl, fun _ _ => rfl, fun _ _ => rfl, fun _ _ _ _ _ => rfl⟩
theorem sIB (l : List Value) (i : Nat) (a : Value) : l.toArray.setIfInBounds i a = (l.set i a).toArray := List.setIfInBounds_toArray _ _ _
theorem sCZ {x : Value} {l : List Value} {a : Value} : (x :: l).set 0 a = a :: l := rfl
theorem sCS {x : Value} {l : List Value} {i : Nat} {a : Value} : (x :: l).set (i + 1) a = x :: l.set i a := rfl
theorem uP {vals vals' : Nat → Value} {i j : Nat} {v x : Value} (hv : upd vals i v = vals') (h : j ≠ i) (f : vals j = x) : vals' j = x := (congrFun hv j).symm.trans ((upd_ne h).trans f)
end Go.Proofs.YtjmfkinedhmglaaDoor
namespace Go.Proofs.YtjmfkinedhmglaaDoor
set_option linter.unusedSimpArgs false
set_option linter.unusedVariables false
set_option maxRecDepth 100000
set_option maxHeartbeats 4000000
open Go.ChangeShapes Go.WideShapes Go.ChangeAt Go.RowKit Go.Joins
open Go.WideMaps Go.WideElems
open Go.ChangeMaps (open_string shut_string)
theorem own:ownKnob Tryd.prog.godebug=none:=by kernel_rfl
theorem laidOut:laidOutB Tryd.prog=true:=by kernel_rfl
section
variable {H:Type} {enc:TypeId × Value→H} {P:Program}
theorem qb7 {f:Func} {s:ChangeSpec} {apart fresh handsOn again:Bool} {W W':World} {args:Array Value} {v:Value} {ds gs:List (DataW H)} {before pa pv:List MemPlace}
  (hW:DataW.Whole enc P f.params.toList s.vars apart W args.toList ds gs before)
  (hres:∀ (b:Nat) (sp:Nat→Bool) (hd:Bool),DataW.TrodAll enc P W' b sp hd f.resultTypes.toList (v.resultList f.resultTypes.size) (s.fn H (ds++gs)).results [])
  (hargs:∀ sp:Nat→Bool,(∀ p ∈ before,sp p.block=true)→DataW.TrodAll enc P W' 0 sp true f.params.toList args.toList (s.fn H (ds++gs)).args pa)
  (hvars:∀ sp:Nat→Bool,(∀ p ∈ before,sp p.block=true)→DataW.TrodVars enc P W' sp s.vars (s.fn H (ds++gs)).vars pv)
  (hps:before=pa++pv) (hb:Below W.heap.size W W')
  (hok:∀ (j:Nat) (t:TypeId) (r:Value),f.resultTypes[j]?=some t→(v.resultList f.resultTypes.size)[j]?=some r→Value.okWide P W' .any 0 t r) :
  s.post enc P f apart fresh handsOn again W args v W':=by
 have hlt:∀ p ∈ before,p.block<W.heap.size:=fun p hp=>hW.lt p hp;have hold:∀ p ∈ before,(fun b=>decide (b<W.heap.size)) p.block=true:=fun p hp=>by simpa using hlt p hp
 refine ⟨ds,gs,before,[],pa,pv,hW,hres _ _ _,hargs _ hold,hvars _ hold,World.keptBut_mono (fun p hp=>⟨hp,?_⟩) (hb.frame (· ∈ before)),fun _=>?_⟩
 ·rw [hps,List.mem_append] at hp;exact Or.inr hp
 ·obtain ⟨_,_,_,_,_,hz,hn⟩:=hW;refine ⟨hok,_,_,([]++pa)++pv,⟨[]++pa,pv,trodAll_append (hargs _ (fun _ _=>rfl)) (hres _ _ _),hvars _ (fun _ _=>rfl),rfl,?_,?_⟩,?_⟩
  ·intro b off hp;have hin:MemPlace.cell b off ∈ before:=by rw [hps]; simpa using hp
   rw [hb.frozen (hlt _ hin)];exact hz b off hin
  ·intro ha;have:=hn ha;rw [hps] at this
   simpa using this
  ·intro p hp _;rw [hps]
   simpa using hp
theorem stays {t:TypeId} (hl:laidOutB P=true) (hr:P.readableRec t=true) (hrow:t<P.types.size) {W W':World} {v:Value} {d:DataW H} {ps:List MemPlace}
  (h:DataW.Trod enc P W 0 (fun _=>true) true t v d ps) (hb:Below W.heap.size W W') (hlt:∀ x ∈ ps,x.block<W.heap.size) {sp:Nat→Bool} (hsp:∀ x ∈ ps,sp x.block=true) :
  DataW.Trod enc P W' 0 sp true t v d ps :=
 WideElems.Trod_stays hl hr hrow h (fun x hx=>hb.same (hlt x hx)) hsp
section
variable {w:World} {base:Nat} {spare:Nat→Bool} {held:Bool}
open Go.Deep
theorem open_agg6 {r:Reach} {b0:Nat} {t:TypeId} {f0 f1 f2 f3 f4 f5:Field} {v:Value} {d:DataW H} {p:List MemPlace} (hs:P.underlying t=some (.struct #[f0,f1,f2,f3,f4,f5])) (hone:oneCellFields P #[f0,f1,f2,f3,f4,f5]=true) (hC:P.cellsOf t=6)
  (hv:Value.okWide P w r b0 t v) (h:DataW.Trod enc P w base spare held t v d p) :
  ∃ (v0 v1 v2 v3 v4 v5:Value) (y0 y1 y2 y3 y4 y5:DataW H × List MemPlace) (n:Nat),v=.agg #[v0,v1,v2,v3,v4,v5]∧d=.agg [y0.1,y1.1,y2.1,y3.1,y4.1,y5.1]∧p=y0.2++(y1.2++(y2.2++(y3.2++(y4.2++y5.2)))) ∧
   DataW.trod enc P w base spare held n f0.type [v0]=some y0∧DataW.trod enc P w base spare held n f1.type [v1]=some y1∧DataW.trod enc P w base spare held n f2.type [v2]=some y2∧DataW.trod enc P w base spare held n f3.type [v3]=some y3∧DataW.trod enc P w base spare held n f4.type [v4]=some y4∧DataW.trod enc P w base spare held n f5.type [v5]=some y5:=by
 obtain ⟨cs,rfl,hsz⟩:=okWide_struct hs hv;obtain ⟨l⟩:=cs
 match l,hsz.trans hC with
 | [c0,c1,c2,c3,c4,c5],_ =>
  obtain ⟨fuel,hf⟩:=h;obtain ⟨xs,n,_,hx,_,hlen,hg⟩:=DataW.trod_struct hs hf;obtain ⟨o0,k0⟩:=hone_of hone 0 f0 rfl;obtain ⟨o1,k1⟩:=hone_of hone 1 f1 rfl;obtain ⟨o2,k2⟩:=hone_of hone 2 f2 rfl;obtain ⟨o3,k3⟩:=hone_of hone 3 f3 rfl;obtain ⟨o4,k4⟩:=hone_of hone 4 f4 rfl;obtain ⟨o5,k5⟩:=hone_of hone 5 f5 rfl
  match xs,hlen with
  | [y0,y1,y2,y3,y4,y5],_ =>
   simp only [Prod.mk.injEq] at hx;exact ⟨c0,c1,c2,c3,c4,c5,y0,y1,y2,y3,y4,y5,n,rfl,by simpa using hx.1,by simpa using hx.2,by simpa [Value.cells,o0,k0] using hg 0 f0 rfl,by simpa [Value.cells,o1,k1] using hg 1 f1 rfl,by simpa [Value.cells,o2,k2] using hg 2 f2 rfl,by simpa [Value.cells,o3,k3] using hg 3 f3 rfl,by simpa [Value.cells,o4,k4] using hg 4 f4 rfl,by simpa [Value.cells,o5,k5] using hg 5 f5 rfl⟩
end
theorem open_strs_rd {t e:TypeId} {fuel:Nat} {cs:List Value} {x:DataW H × List MemPlace} {W:World} {base:Nat} {sp:Nat→Bool} {held:Bool} (ht:P.underlying t=some (.slice e)) (he:P.underlying e=some .string) (hc:P.cellsOf e=1)
  (h:DataW.trod enc P W base sp held fuel t cs=some x):∃ (A:Option Addr) (c:Nat) (l:List ByteArray),cs=[.slice A l.length c]∧l.length≤c∧l.length≤maxLen∧Rd W W.heap.size A (l.map Value.string)∧(∀ s ∈ l,s.size≤maxLen):=by
 rcases open_strings ht he hc h with ⟨rfl,_⟩ | ⟨a,len,cap,ss,rfl,_,hl,hm,hz,_,hcell,hs⟩
 ·exact ⟨none,0,[],rfl,Nat.le_refl _,Nat.zero_le _,Rd.nil _ _ _,fun s hs=>by simp at hs⟩
 ·have hlen:len≤ss.length:=by rw [hz]; split <;> omega
  refine ⟨some a,cap,ss.take len,by rw [List.length_take,Nat.min_eq_left hlen],by rw [List.length_take]; omega,by rw [List.length_take]; omega,fun i u hu=>?_,fun s hs'=>hs s (List.mem_of_mem_take hs')⟩;rw [List.getElem?_map] at hu;obtain ⟨s,hs1,rfl⟩:=Option.map_eq_some_iff.1 hu;have hi:i<(ss.take len).length:=(List.getElem?_eq_some_iff.1 hs1).1;rw [List.length_take] at hi;have hcl:=hcell i (by omega);rw [List.getElem?_take,if_pos (by omega)] at hs1;have e1:ss.getD i ByteArray.empty=s:=by simp [List.getD,hs1]
  rw [e1] at hcl;refine ⟨a,rfl,?_,hcl⟩;have:=World.block_lt_of_cell? W _ hcl
  rwa [qaC] at this
end
end Go.Proofs.YtjmfkinedhmglaaDoor
namespace Go.Proofs.YtjmfkinedhmglaaDoor
set_option linter.unusedSimpArgs false
set_option linter.unusedVariables false
set_option maxRecDepth 100000
set_option maxHeartbeats 4000000
open Go.ChangeShapes Go.WideShapes Go.ChangeAt Go.RowKit Go.Joins
section
variable {H:Type} {enc:TypeId × Value→H} {P:Program}
theorem open_bytes_rd {t e:TypeId} {fuel:Nat} {cs:List Value} {x:DataW H × List MemPlace} {W:World} {base:Nat} {sp:Nat→Bool} {held:Bool} (ht:P.underlying t=some (.slice e)) (he:P.underlying e=some (.int .u8)) (hc:P.cellsOf e=1)
  (h:DataW.trod enc P W base sp held fuel t cs=some x):∃ (A:Option Addr) (c:Nat) (l:List UInt8),cs=[.slice A l.length c]∧l.length≤c∧l.length≤maxLen∧Rd W W.heap.size A (bytesV l):=by
 rcases open_ints ht he hc h with ⟨rfl,_⟩ | ⟨a,len,cap,zs,rfl,_,hl,hm,hz,_,hcell,hwz⟩
 ·exact ⟨none,0,[],rfl,Nat.le_refl _,Nat.zero_le _,Rd.nil _ _ _⟩
 ·have hlen:len≤zs.length:=by rw [hz]; split <;> omega
  have hl2:((zs.take len).map fun n=>UInt8.ofNat n.toNat).length=len:=by simp; omega
  refine ⟨some a,cap,(zs.take len).map fun n=>UInt8.ofNat n.toNat,by rw [hl2],by rw [hl2]; omega,by rw [hl2]; omega,fun i u hu=>?_⟩;rw [bytesV,List.getElem?_map,List.getElem?_map] at hu;obtain ⟨s,hs1,rfl⟩:=Option.map_eq_some_iff.1 hu;obtain ⟨n,hn1,rfl⟩:=Option.map_eq_some_iff.1 hs1;have hi:i<(zs.take len).length:=(List.getElem?_eq_some_iff.1 hn1).1;rw [List.length_take] at hi;have hcl:=hcell i (by omega);rw [List.getElem?_take,if_pos (by omega)] at hn1;have e1:zs.getD i 0=n:=by simp [List.getD,hn1]
  have hb:=range_u8 hwz i;rw [e1] at hcl;have e2:zs[i]?.getD 0=n:=by rw [hn1]; rfl
  rw [e2] at hb;refine ⟨a,rfl,?_,?_⟩
  ·have:=World.block_lt_of_cell? W _ hcl
   rwa [qaC] at this
  ·rw [hcl,byteV]
   congr 2
   simp only [UInt8.toNat_ofNat'];omega
end
theorem cells_u8:Tryd.prog.cellsOf 5=1:=by kernel_rfl
theorem open_bytes_arg {H:Type} {enc:TypeId × Value→H} {W:World} {base:Nat} {r:Reach} {b0:Nat} {sp:Nat→Bool} {held:Bool} {v:Value} {d:DataW H} {p:List MemPlace}
  (hv:Value.okWide Tryd.prog W r b0 22 v) (h:DataW.Trod enc Tryd.prog W base sp held 22 v d p) :
  ∃ (l:List UInt8) (A:Option Addr) (c:Nat),v=.slice A l.length c∧Rd W W.heap.size A (bytesV l)∧l.length≤c∧l.length≤9223372036854775807:=by
 obtain ⟨a1,len,cap,rfl⟩:=okWide_slice Tryd.underlying22 hv;obtain ⟨fuel,hf⟩:=h;obtain ⟨A,c,l,e,h1,h2,h3⟩:=open_bytes_rd Tryd.underlying22 Tryd.underlying5 cells_u8 hf;simp [Value.cells] at e;obtain ⟨rfl,rfl,rfl⟩:=e;simp only [maxLen] at h2;exact ⟨l,_,_,rfl,h3,h1,by omega⟩
end Go.Proofs.YtjmfkinedhmglaaDoor
namespace Go.Proofs.YtjmfkinedhmglaaDoor
set_option linter.unusedSimpArgs false
set_option linter.unusedVariables false
set_option maxRecDepth 100000
set_option maxHeartbeats 4000000
open Go.RowKit
section
variable (a b:Nat)
theorem or64 (ha:a<18446744073709551616) (hb:b<18446744073709551616):bits .or .u64 (a:Int) (b:Int)=((a ||| b:Nat):Int):=by
 show IntKind.u64.wrap ((BitVec.ofInt 64 (a:Int) ||| BitVec.ofInt 64 (b:Int)).toNat:Int)=_;have h:=Nat.or_lt_two_pow (n:=64) (x:=a) (y:=b) ha hb;rw [BitVec.toNat_or,BitVec.ofInt_natCast,BitVec.ofInt_natCast,BitVec.toNat_ofNat,BitVec.toNat_ofNat,Nat.mod_eq_of_lt ha,Nat.mod_eq_of_lt hb,IntKind.wrap_u64];omega
theorem xor64 (ha:a<18446744073709551616) (hb:b<18446744073709551616):bits .xor .u64 (a:Int) (b:Int)=((a ^^^ b:Nat):Int):=by
 show IntKind.u64.wrap ((BitVec.ofInt 64 (a:Int) ^^^ BitVec.ofInt 64 (b:Int)).toNat:Int)=_;have h:=Nat.xor_lt_two_pow (n:=64) (x:=a) (y:=b) ha hb;rw [BitVec.toNat_xor,BitVec.ofInt_natCast,BitVec.ofInt_natCast,BitVec.toNat_ofNat,BitVec.toNat_ofNat,Nat.mod_eq_of_lt ha,Nat.mod_eq_of_lt hb,IntKind.wrap_u64];omega
theorem and64 (ha:a<18446744073709551616) (hb:b<18446744073709551616):bits .and .u64 (a:Int) (b:Int)=((a &&& b:Nat):Int):=by
 show IntKind.u64.wrap ((BitVec.ofInt 64 (a:Int) &&& BitVec.ofInt 64 (b:Int)).toNat:Int)=_;have h:a &&& b≤a:=Nat.and_le_left;rw [BitVec.toNat_and,BitVec.ofInt_natCast,BitVec.ofInt_natCast,BitVec.toNat_ofNat,BitVec.toNat_ofNat,Nat.mod_eq_of_lt ha,Nat.mod_eq_of_lt hb,IntKind.wrap_u64];omega
theorem or8 (ha:a<256) (hb:b<256):bits .or .u8 (a:Int) (b:Int)=((a ||| b:Nat):Int):=by
 show IntKind.u8.wrap ((BitVec.ofInt 8 (a:Int) ||| BitVec.ofInt 8 (b:Int)).toNat:Int)=_;have h:=Nat.or_lt_two_pow (n:=8) (x:=a) (y:=b) ha hb;rw [BitVec.toNat_or,BitVec.ofInt_natCast,BitVec.ofInt_natCast,BitVec.toNat_ofNat,BitVec.toNat_ofNat,Nat.mod_eq_of_lt ha,Nat.mod_eq_of_lt hb,IntKind.wrap_u8];omega
theorem xor8 (ha:a<256) (hb:b<256):bits .xor .u8 (a:Int) (b:Int)=((a ^^^ b:Nat):Int):=by
 show IntKind.u8.wrap ((BitVec.ofInt 8 (a:Int) ^^^ BitVec.ofInt 8 (b:Int)).toNat:Int)=_;have h:=Nat.xor_lt_two_pow (n:=8) (x:=a) (y:=b) ha hb;rw [BitVec.toNat_xor,BitVec.ofInt_natCast,BitVec.ofInt_natCast,BitVec.toNat_ofNat,BitVec.toNat_ofNat,Nat.mod_eq_of_lt ha,Nat.mod_eq_of_lt hb,IntKind.wrap_u8];omega
theorem wrap64n (a:Nat):IntKind.u64.wrap (a:Int)=((a%18446744073709551616:Nat):Int):=by rw [IntKind.wrap_u64]; omega
end
theorem ret_int' {k:IntKind} {a b:Int} (h:a=b):Ending.returned (.int k a)=.returned (.int k b):=by rw [h]
theorem below_drewN' {B:Nat} {a w:World} (h:Below B a w) (n:Nat):Below B a (w.drewN n):=⟨h.os,h.tape,h.output,h.size,h.block⟩
theorem sum64w (x y:Nat):IntKind.u64.wrap ((x:Int)+(y:Int))=(((x+y)%18446744073709551616:Nat):Int):=by rw [IntKind.wrap_u64]; omega
theorem sum64f (a b x y:Nat):IntKind.u64.wrap (IntKind.u64.wrap ((a:Int)+(b:Int))+((x:Int)+(y:Int))%18446744073709551616)=(((a+b+(x+y))%2^64:Nat):Int):=by
 rw [IntKind.wrap_u64,IntKind.wrap_u64]; omega
theorem qbK (a b:Nat):IntKind.u64.wrap ((a:Int)+(b:Int))=(((a+b)%2^64:Nat):Int):=by rw [IntKind.wrap_u64]; omega
theorem and_lt {a b m:Nat} (h:a<m):a &&& b<m:=Nat.lt_of_le_of_lt Nat.and_le_left h
theorem or_shl8 (x z:Nat) (hz:z<256):x*256 ||| z=x*256+z:=by
 have:=Nat.two_pow_add_eq_or_of_lt (i:=8) (b:=z) hz x;rw [show 2^8*x=x*256 by omega] at this;exact this.symm
theorem or_byte64 (x z:Nat) (hx:x<72057594037927936) (hz:z<256):bits .or .u64 (IntKind.u64.wrap ((x:Int)*256)) (z:Int)=((x*256+z:Nat):Int):=by
 rw [show IntKind.u64.wrap ((x:Int)*256)=((x*256:Nat):Int) by rw [IntKind.wrap_u64]; omega,or64 _ _ (by omega) (by omega),or_shl8 x z hz]
def rotN (b x n:Nat):Nat:=x/2^n ||| x*2^(b - n)%2^b
theorem rotN_lt {b x n:Nat} (hx:x<2^b):rotN b x n<2^b :=
 Nat.or_lt_two_pow (Nat.lt_of_le_of_lt (Nat.div_le_self _ _) hx) (Nat.mod_lt _ (Nat.two_pow_pos _))
def turnedN (b x n:Nat):Nat:=if b=32 then rotN 32 (x%4294967296) n else rotN 64 x n
theorem qaM {b x n:Nat} (hx:x<18446744073709551616):turnedN b x n<18446744073709551616:=by
 unfold turnedN
 split
 ·have:=rotN_lt (b:=32) (x:=x%4294967296) (n:=n) (Nat.mod_lt _ (by decide));omega
 ·exact rotN_lt (b:=64) hx
def lastN (b x c:Nat) (shift:Bool):Nat:=if shift then x/2^c else turnedN b x c
theorem lastN_lt {b x c:Nat} {shift:Bool} (hx:x<18446744073709551616):lastN b x c shift<18446744073709551616:=by
 unfold lastN
 split
 ·exact Nat.lt_of_le_of_lt (Nat.div_le_self _ _) hx
 ·exact qaM hx
def allN (b x p q c:Nat) (shift:Bool):Nat:=turnedN b x p ^^^ turnedN b x q ^^^ lastN b x c shift
theorem qcz {a b:Nat} (ha:a<18446744073709551616) (hb:b<18446744073709551616):a ^^^ b<18446744073709551616:=Nat.xor_lt_two_pow (n:=64) ha hb
theorem allN_lt {b x p q c:Nat} {shift:Bool} (hx:x<18446744073709551616):allN b x p q c shift<18446744073709551616 :=
 qcz (qcz (qaM hx) (qaM hx)) (lastN_lt hx)
theorem pow_int (n:Nat):(2:Int)^n=((2^n:Nat):Int):=by simp
theorem qbA (x n:Nat):(x:Int)/2^n=((x/2^n:Nat):Int):=by rw [pow_int]; simp
theorem shl_int (x n:Nat):(x:Int)*2^n=((x*2^n:Nat):Int):=by rw [pow_int]; simp
theorem rot_walk64 (x n:Nat) (hx:x<18446744073709551616):bits .or .u64 ((x:Int)/2^n) (IntKind.u64.wrap ((x:Int)*2^(64 - n)))=(rotN 64 x n:Int):=by
 rw [qbA,shl_int,wrap64n,or64 _ _ (Nat.lt_of_le_of_lt (Nat.div_le_self _ _) hx) (Nat.mod_lt _ (by decide))];rfl
end Go.Proofs.YtjmfkinedhmglaaDoor
namespace Go.Proofs.YtjmfkinedhmglaaDoor.Sh
set_option linter.unusedSimpArgs false
set_option linter.unusedVariables false
set_option maxRecDepth 100000
set_option maxHeartbeats 4000000
open Go.RowKit
def beN (l:List UInt8):Nat:=l.foldl (fun n c=>n*256+c.toNat) 0
theorem beN_snoc (l:List UInt8) (c:UInt8):beN (l++[c])=beN l*256+c.toNat:=by simp [beN]
theorem foldl_fromN (x:Nat) (c:List UInt8):c.foldl (fun n c=>n*256+c.toNat) x=x*256^c.length+beN c:=by
 induction c generalizing x with
 | nil=>simp [beN]
 | cons z c ih =>
  have e:beN (z :: c)=c.foldl (fun n c=>n*256+c.toNat) z.toNat:=by simp [beN]
  rw [List.foldl_cons,ih,e,ih,List.length_cons,Nat.pow_succ,Nat.add_mul,Nat.mul_assoc,Nat.mul_comm 256,Nat.add_assoc]
theorem beN_append (a c:List UInt8):beN (a++c)=beN a*256^c.length+beN c:=by
 rw [beN,List.foldl_append,foldl_fromN]; rfl
theorem beN_lt (l:List UInt8):beN l<256^l.length:=by
 induction l with
 | nil=>simp [beN]
 | cons z l ih =>
  have e:=beN_append [z] l;have hz:=z.toNat_lt;have e1:beN [z]=z.toNat:=by simp [beN]
  rw [show z :: l=[z]++l from rfl,e,e1,List.length_append,List.length_singleton,Nat.pow_add,Nat.pow_one];have:z.toNat*256^l.length≤255*256^l.length:=Nat.mul_le_mul_right _ (by omega);omega
structure ShaF where
 bits:Nat
 many:Nat
 s0:Nat × Nat × Nat
 s1:Nat × Nat × Nat
 t0:Nat × Nat × Nat
 t1:Nat × Nat × Nat
def F64:ShaF:=⟨64,80,(28,34,39),(14,18,41),(1,8,7),(19,61,6)⟩
def allF (F:ShaF) (x:Nat) (p:Nat × Nat × Nat) (shift:Bool):Nat:=allN F.bits x p.1 p.2.1 p.2.2 shift
def pieceN (e:Nat) (blk:List UInt8) (t:Nat):Nat:=beN ((blk.drop (t*e)).take e)
def nextW (F:ShaF) (r:List Nat) (t:Nat):Nat :=
 (r.getD (t - 16) 0+r.getD (t - 7) 0+(allF F (r.getD (t - 15) 0) F.t0 true+allF F (r.getD (t - 2) 0) F.t1 true))%2^F.bits
def rowW (F:ShaF) (blk:List UInt8):Nat→List Nat
 | 0=>[]
 | t+1=>rowW F blk t++[if t<16 then pieceN (F.bits/8) blk t else nextW F (rowW F blk t) t]
theorem qb1 (F:ShaF) (blk:List UInt8):∀ t,(rowW F blk t).length=t
 | 0=>rfl
 | t+1=>by simp [rowW,qb1 F blk t]
theorem pieceN_lt (e:Nat) (blk:List UInt8) (t:Nat):pieceN e blk t<256^e:=by
 have h:=beN_lt ((blk.drop (t*e)).take e);have h2:((blk.drop (t*e)).take e).length≤e:=List.length_take_le _ _;exact Nat.lt_of_lt_of_le h (Nat.pow_le_pow_right (by omega) h2)
theorem rowW_lt (F:ShaF) (hb:256^(F.bits/8)=2^F.bits) (blk:List UInt8):∀ t,∀ x ∈ rowW F blk t,x<2^F.bits
 | 0,x,hx=>by simp [rowW] at hx
 | t+1,x,hx=>by
  simp only [rowW,List.mem_append,List.mem_singleton] at hx
  rcases hx with hx | rfl
  ·exact rowW_lt F hb blk t x hx
  ·split
   ·rw [← hb]; exact pieceN_lt _ _ _
   ·exact Nat.mod_lt _ (Nat.two_pow_pos _)
theorem qc2 {l:List Nat} {b:Nat} (h:∀ x ∈ l,x<b) (hb:0<b) (i:Nat):l.getD i 0<b:=by
 by_cases hi:i<l.length
 ·rw [List.getD_eq_getElem?_getD,List.getElem?_eq_getElem hi]; exact h _ (List.getElem_mem hi)
 ·rw [List.getD_eq_getElem?_getD,List.getElem?_eq_none (by omega)]; exact hb
def wordsV (K:IntKind) (l:List Nat):List Value:=l.map fun n:Nat=>Value.int K (n:Int)
def rowC (K:IntKind) (l:List Nat) (m:Nat):Array Value:=(wordsV K l++List.replicate m (Value.int K 0)).toArray
def rowP (K:IntKind) (l:List Nat) (x m:Nat):Array Value:=(wordsV K l++(Value.int K (x:Int)) :: List.replicate m (Value.int K 0)).toArray
theorem rowC_start (K:IntKind) (l:List Nat) (m:Nat):rowC K l (m+1)=rowP K l 0 m:=by simp [rowC,rowP,List.replicate_succ]
theorem rowP_end (K:IntKind) (l:List Nat) (x m:Nat):rowP K l x m=rowC K (l++[x]) m:=by simp [rowC,rowP,wordsV]
theorem rowP_size (K:IntKind) (l:List Nat) (x m:Nat):(rowP K l x m).size=l.length+m+1:=by simp [rowP,wordsV]; omega
theorem rowP_at (K:IntKind) (l:List Nat) (x m:Nat):(rowP K l x m)[l.length]?=some (Value.int K (x:Int)):=by
 simp [rowP,wordsV]
theorem rowP_set (K:IntKind) (l:List Nat) (x y m:Nat):(rowP K l x m).setIfInBounds l.length (Value.int K (y:Int))=rowP K l y m:=by
 apply Array.ext';simp [rowP,Array.toList_setIfInBounds,wordsV,List.set_append]
theorem rowC_get (K:IntKind) (l:List Nat) (m i:Nat) (h:i<l.length):(rowC K l m)[i]?=some (Value.int K ((l.getD i 0:Nat):Int)):=by
 simp [rowC,wordsV,List.getElem?_append,h]
theorem qcC (K:IntKind) (l:List Nat) (x m i:Nat) (h:i<l.length):(rowP K l x m)[i]?=some (Value.int K ((l.getD i 0:Nat):Int)):=by
 rw [rowP_end,rowC_get K _ _ i (by simp; omega)];simp [List.getElem?_append,h]
def stepsN:List Nat:=[4794697086780616226,8158064640168781261,13096744586834688815,16840607885511220156,4131703408338449720,6480981068601479193,10538285296894168987,12329834152419229976,15566598209576043074,1334009975649890238,2608012711638119052,6128411473006802146,8268148722764581231,9286055187155687089,11230858885718282805,13951009754708518548,16472876342353939154,17275323862435702243,1135362057144423861,2597628984639134821,3308224258029322869,5365058923640841347,6679025012923562964,8573033837759648693,10970295158949994411,12119686244451234320,12683024718118986047,13788192230050041572,14330467153632333762,15395433587784984357,489312712824947311,1452737877330783856,2861767655752347644,3322285676063803686,5560940570517711597,5996557281743188959,7280758554555802590,8532644243296465576,9350256976987008742,10552545826968843579,11727347734174303076,12113106623233404929,14000437183269869457,14369950271660146224,15101387698204529176,15463397548674623760,17586052441742319658,1182934255886127544,1847814050463011016,2177327727835720531,2830643537854262169,3796741975233480872,4115178125766777443,5681478168544905931,6601373596472566643,7507060721942968483,8399075790359081724,8693463985226723168,9568029438360202098,10144078919501101548,10430055236837252648,11840083180663258601,13761210420658862357,14299343276471374635,14566680578165727644,15097957966210449927,16922976911328602910,17689382322260857208,500013540394364858,748580250866718886,1242879168328830382,1977374033974150939,2944078676154940804,3659926193048069267,4368137639120453308,4836135668995329356,5532061633213252278,6448918945643986474,6902733635092675308,7801388544844847127]
theorem stepsN_length:stepsN.length=80:=by decide +kernel
theorem stepsN_all:(stepsN.all fun x=>decide (x<18446744073709551616))=true:=by decide +kernel
theorem stepsN_lt (i:Nat):stepsN.getD i 0<18446744073709551616 :=
 qc2 (fun x hx=>by simpa using (List.all_eq_true.1 stepsN_all) x hx) (by decide) i
def kN (F:ShaF) (t:Nat):Nat:=stepsN.getD t 0/2^(64 - F.bits)%2^F.bits
structure S8 where
 a:Nat
 b:Nat
 c:Nat
 d:Nat
 e:Nat
 f:Nat
 g:Nat
 h:Nat
structure S8.Lt (s:S8) (m:Nat):Prop where
 a:s.a<m
 b:s.b<m
 c:s.c<m
 d:s.d<m
 e:s.e<m
 f:s.f<m
 g:s.g<m
 h:s.h<m
def mixX (F:ShaF) (s:S8) (k w:Nat):Nat:=(s.h+allF F s.e F.s1 false+((s.e &&& s.f) ^^^ ((2^F.bits - 1 - s.e) &&& s.g))+k+w)%2^F.bits
def mixY (F:ShaF) (s:S8):Nat:=(allF F s.a F.s0 false+((s.a &&& s.b) ^^^ (s.a &&& s.c) ^^^ (s.b &&& s.c)))%2^F.bits
theorem mixX_64 (h al ch k w:Nat):(h+al+ch+k+w)%2^64=((((h+al)%2^64+ch)%2^64+k)%2^64+w)%2^64:=by omega
theorem mixY_64 (al mj:Nat):(al+mj)%2^64=(al+mj)%2^64:=rfl
def stepS (F:ShaF) (s:S8) (k w:Nat):S8:=⟨(mixX F s k w+mixY F s)%2^F.bits,s.a,s.b,s.c,(s.d+mixX F s k w)%2^F.bits,s.e,s.f,s.g⟩
def mixTo (F:ShaF) (r:List Nat) (s:S8):Nat→S8
 | 0=>s
 | t+1=>stepS F (mixTo F r s t) (kN F t) (r.getD t 0)
def addS (F:ShaF) (s v:S8):S8:=⟨(v.a+s.a)%2^F.bits,(v.b+s.b)%2^F.bits,(v.c+s.c)%2^F.bits,(v.d+s.d)%2^F.bits,(v.e+s.e)%2^F.bits,(v.f+s.f)%2^F.bits,(v.g+s.g)%2^F.bits,(v.h+s.h)%2^F.bits⟩
def mixS (F:ShaF) (s:S8) (blk:List UInt8):S8:=addS F s (mixTo F (rowW F blk F.many) s F.many)
theorem stepS_lt {F:ShaF} {s:S8} {k w:Nat} (h:s.Lt (2^F.bits)):(stepS F s k w).Lt (2^F.bits) :=
 ⟨Nat.mod_lt _ (Nat.two_pow_pos _),h.a,h.b,h.c,Nat.mod_lt _ (Nat.two_pow_pos _),h.e,h.f,h.g⟩
theorem mixTo_lt {F:ShaF} {r:List Nat} {s:S8} (h:s.Lt (2^F.bits)):∀ t,(mixTo F r s t).Lt (2^F.bits)
 | 0=>h
 | t+1=>stepS_lt (mixTo_lt h t)
theorem addS_lt (F:ShaF) (s v:S8):(addS F s v).Lt (2^F.bits):=by
 constructor <;> exact Nat.mod_lt _ (Nat.two_pow_pos _)
def s8V (K:IntKind) (s:S8):Array Value:=#[.int K (s.a:Int),.int K (s.b:Int),.int K (s.c:Int),.int K (s.d:Int),.int K (s.e:Int),.int K (s.f:Int),.int K (s.g:Int),.int K (s.h:Int)]
def s8L (s:S8):List Nat:=[s.a,s.b,s.c,s.d,s.e,s.f,s.g,s.h]
def addC (K:IntKind) (F:ShaF) (s v:S8) (i:Nat):Array Value:=(wordsV K ((s8L (addS F s v)).take i++(s8L v).drop i)).toArray
theorem addC_zero (K:IntKind) (F:ShaF) (s v:S8):addC K F s v 0=s8V K v:=rfl
theorem addC_end (K:IntKind) (F:ShaF) (s v:S8):addC K F s v 8=s8V K (addS F s v):=rfl
theorem addC_size (K:IntKind) (F:ShaF) (s v:S8) (i:Nat):(addC K F s v i).size=8:=by
 simp [addC,wordsV,s8L]; omega
theorem s8V_at (K:IntKind) (s:S8) (i:Nat) (h:i<8):(s8V K s)[i]?=some (.int K (((s8L s).getD i 0:Nat):Int)):=by
 match i,h with
 | 0,_=>rfl
 | 1,_=>rfl
 | 2,_=>rfl
 | 3,_=>rfl
 | 4,_=>rfl
 | 5,_=>rfl
 | 6,_=>rfl
 | 7,_=>rfl
theorem addC_at (K:IntKind) (F:ShaF) (s v:S8) (i:Nat) (h:i<8):(addC K F s v i)[i]?=some (.int K (((s8L v).getD i 0:Nat):Int)):=by
 match i,h with
 | 0,_=>rfl
 | 1,_=>rfl
 | 2,_=>rfl
 | 3,_=>rfl
 | 4,_=>rfl
 | 5,_=>rfl
 | 6,_=>rfl
 | 7,_=>rfl
theorem addC_set (K:IntKind) (F:ShaF) (s v:S8) (i:Nat) (h:i<8):(addC K F s v i).setIfInBounds i (.int K ((((s8L v).getD i 0+(s8L s).getD i 0)%2^F.bits:Nat):Int))=addC K F s v (i+1):=by
 match i,h with
 | 0,_=>rfl
 | 1,_=>rfl
 | 2,_=>rfl
 | 3,_=>rfl
 | 4,_=>rfl
 | 5,_=>rfl
 | 6,_=>rfl
 | 7,_=>rfl
structure TabG (w:World):Prop where
 size:0<w.heap.size
 cell:∀ i,i<80→w.cell? ⟨0,i,none⟩=some (.int .u64 ((stepsN.getD i 0:Nat):Int))
theorem TabG.below {w w':World} {B:Nat} (h:TabG w) (hb:Below B w w') (hB:0<B):TabG w' :=
 ⟨Nat.lt_of_lt_of_le h.size hb.size,fun i hi=>(hb.cell (p:=⟨0,i,none⟩) hB).trans (h.cell i hi)⟩
end Go.Proofs.YtjmfkinedhmglaaDoor.Sh
namespace Go.Proofs.YtjmfkinedhmglaaDoor.Sh
set_option linter.unusedSimpArgs false
set_option linter.unusedVariables false
set_option maxRecDepth 100000
set_option maxHeartbeats 4000000
open Go.ChangeShapes Go.WideShapes Go.ChangeAt Go.RowKit Go.Joins
theorem gSteps:Tryd.prog.globalNamed "brevet/sha.steps" = some 0:=by kernel_rfl
theorem tSteps:(Tryd.prog.globals[0]?).map (·.type)=some 117:=by kernel_rfl
theorem c_u64:Tryd.prog.cellsOf 43=1:=by kernel_rfl
def laidL:List (String × DataW Unit):=[("brevet/sha.steps",Rows.laid_brevet_sha_steps)]
theorem steps_datum:(Rows.laid_brevet_sha_steps:DataW Unit)=.agg (stepsN.map fun n:Nat=>DataW.lit (.int .u64 (n:Int))):=by kernel_rfl
theorem door_met (os:Os) (args:Array Value):laidMetH Tryd.prog laidL ((World.doorLaid Tryd.prog 400 os).forCall (fun _ _=>0) ⟨#[],args,[]⟩).memory :=
 laidMetH_of_parts3 (fuel:=8) (laidMet_of_run' 8 (by kernel_rfl) (by kernel_rfl)) (by kernel_rfl) (by kernel_rfl)
theorem qcN {W:World} (h:laidMetH Tryd.prog laidL W):TabG W:=by
 rw [MakeChecks.laidMetH_plain _ _ _ (by kernel_rfl)] at h;obtain ⟨ps,⟨g0,t0,cs0,f0,p0,q0,hg0,ht0,hv0,hd0,_,_⟩,_,_⟩:=h;obtain rfl:=Option.some.inj (gSteps.symm.trans hg0);obtain rfl:=Option.some.inj (tSteps.symm.trans ht0);obtain ⟨xs,m,rfl,hx,hlen,hn,hel⟩:=DataW.trod_array Tryd.underlying117 hd0;rw [steps_datum] at hx;simp only [Prod.mk.injEq,DataW.agg.injEq] at hx
 have hcell:∀ i,i<80→W.cell? ⟨0,i,none⟩=some (.int .u64 ((stepsN.getD i 0:Nat):Int)):=fun i hi=>by
  have h0:=hel i hi;rw [c_u64,Nat.mul_one] at h0;have hxl:i<xs.length:=by rw [hn]; exact hi
  have hsl:i<stepsN.length:=by rw [stepsN_length]; exact hi
  rw [List.getElem?_eq_getElem hxl] at h0;obtain ⟨k,e1,e2,_⟩:=DataW.trod_int Tryd.underlying43 h0;have h1:(xs.map (·.1))[i]?=(stepsN.map fun n:Nat=>DataW.lit (H:=Unit) (.int .u64 (n:Int)))[i]?:=by rw [hx.1]
  rw [List.getElem?_map,List.getElem?_map,List.getElem?_eq_getElem hxl,List.getElem?_eq_getElem hsl,e2] at h1;simp at h1;subst h1;rw [World.var?_cell hg0 hv0 i]
  have h2:(cs0.toList.drop i)[0]?=some (.int .u64 ((stepsN[i]:Nat):Int)):=by
   have:((cs0.toList.drop i).take 1)[0]?=some (.int .u64 ((stepsN[i]:Nat):Int)):=by rw [e1]; rfl
   rwa [List.getElem?_take,if_pos (by decide)] at this
  rw [List.getElem?_drop,Nat.add_zero] at h2;rw [List.getD_eq_getElem?_getD,List.getElem?_eq_getElem hsl,Option.getD_some,← h2];simp
 refine ⟨?_,hcell⟩;have:=World.block_lt_of_cell? W _ (hcell 0 (by decide));exact this
theorem qbV {H:Type} {enc:TypeId × Value→H} {W:World} {base:Nat} {r:Reach} {b0:Nat} {sp:Nat→Bool} {held:Bool} {v:Value} {d:DataW H} {p:List MemPlace}
  (hv:Value.okWide Tryd.prog W r b0 22 v) (h:DataW.Trod enc Tryd.prog W base sp held 22 v d p) :
  ∃ (l:List UInt8) (A:Option Addr) (c:Nat),v=.slice A l.length c∧Rd W W.heap.size A (bytesV l)∧l.length≤c∧c≤9223372036854775807:=by
 have h9:=h;obtain ⟨l,A,c,rfl,hr,hc,_⟩:=open_bytes_arg hv h;refine ⟨l,A,c,rfl,hr,hc,?_⟩;obtain ⟨fuel,hf⟩:=h9
 rcases open_ints Tryd.underlying22 Tryd.underlying5 cells_u8 hf with ⟨e,_⟩ | ⟨a,len,cap,zs,e,_,_,hm,_⟩
 ·simp [Value.cells] at e;omega
 ·simp [Value.cells] at e;unfold maxLen at hm;omega
end Go.Proofs.YtjmfkinedhmglaaDoor.Sh
namespace Go.Proofs.YtjmfkinedhmglaaDoor.Wi
set_option linter.unusedSimpArgs false
set_option linter.unusedVariables false
set_option maxRecDepth 100000
set_option maxHeartbeats 4000000
open Go.RowKit
def strsV (l:List ByteArray):List Value:=l.map Value.string
theorem qa2 (l:List ByteArray):(strsV l).length=l.length:=by simp [strsV]
def firstLong (l:List ByteArray):Int:=match l.findIdx? (fun s=>decide (1000<s.size)) with | some k=>(k:Int) | none=>-1
theorem firstLong_none {l:List ByteArray} (h:∀ j,(h:j<l.length)→¬ 1000<(l[j]).size):firstLong l=-1:=by
 have:l.findIdx? (fun s=>decide (1000<s.size))=none:=by
  rw [List.findIdx?_eq_none_iff];intro x hx;obtain ⟨j,hj,rfl⟩:=List.getElem_of_mem hx
  simpa using h j hj
 simp [firstLong,this]
theorem firstLong_some {l:List ByteArray} {k:Nat} (hk:k<l.length) (hl:1000<(l[k]).size) (h:∀ j,(h:j<l.length)→j<k→¬ 1000<(l[j]).size):firstLong l=k:=by
 have:l.findIdx? (fun s=>decide (1000<s.size))=some k:=by
  rw [List.findIdx?_eq_some_iff_getElem];exact ⟨hk,by simpa using hl,fun j hj=>by simpa using h j (by omega) hj⟩
 simp [firstLong,this]
theorem firstLong_neg (l:List ByteArray):(0≤firstLong l)↔l.any (fun s=>decide (1000<s.size))=true:=by
 by_cases h:l.any (fun s=>decide (1000<s.size))=true
 ·simp only [h,iff_true];have:(l.findIdx? (fun s=>decide (1000<s.size))).isSome=true:=by rw [List.findIdx?_isSome]; exact h
  obtain ⟨k,hk⟩:=Option.isSome_iff_exists.1 this;simp [firstLong,hk]
 ·have:l.findIdx? (fun s=>decide (1000<s.size))=none:=by
   rw [List.findIdx?_eq_none_iff];intro x hx;simp only [List.any_eq_true,not_exists,not_and] at h
   simpa using h x hx
  simp [firstLong,this,h]
def anyLong (l:List ByteArray):Bool:=l.any fun s=>decide (1000<s.size)
structure MsgD where
 kind:Int
 src:ByteArray
 dst:ByteArray
 seq:Int
 fields:List ByteArray
 sig:ByteArray
def msgCells (m:MsgD) (A:Option Addr) (c:Nat):Array Value:=#[.int .i64 m.kind,.string m.src,.string m.dst,.int .i64 m.seq,.slice A m.fields.length c,.string m.sig]
def mayB (m:MsgD):Bool :=
 (decide (1≤m.kind) && decide (m.kind≤255) && decide (0≤m.seq) && decide (m.seq≤1099511627776) && decide (m.fields.length≤8)) &&
 !decide (1000<m.src.size) && !decide (1000<m.dst.size) && !anyLong m.fields && (decide (m.sig.size=0) || decide (m.sig.size=64))
structure MsgOk (m:MsgD):Prop where
 src:m.src.size≤9223372036854775807
 dst:m.dst.size≤9223372036854775807
 sig:m.sig.size≤9223372036854775807
 fields:m.fields.length≤9223372036854775807
 each:∀ s ∈ m.fields,s.size≤9223372036854775807
theorem may_end (kind seq:Int) (src dst sig:ByteArray) (fields:List ByteArray) (a:1≤kind) (b:kind≤255) (c:0≤seq) (d:seq≤1099511627776) (e:(fields.length:Int)≤8) (f:src.size≤1000) (g:dst.size≤1000)
  (h:¬ anyLong fields=true) (hsg:¬ sig.toList=[]):(!decide (1000<src.size) && !decide (1000<dst.size) && (sig.toList.isEmpty || (sig.size:Int) == 64))=mayB ⟨kind,src,dst,seq,fields,sig⟩:=by
 have hz:¬ sig.size=0:=fun h=>hsg ((qbU sig).2 h);have hi:sig.toList.isEmpty=false:=by simpa using hsg
 have h64:((sig.size:Int) == 64)=decide (sig.size=64):=by rw [Bool.eq_iff_iff]; simp; omega
 have h1:¬ 1000<src.size:=by omega
 have h2:¬ 1000<dst.size:=by omega
 have h3:fields.length≤8:=by omega
 simp only [mayB];simp [*]
theorem may_end0 (kind seq:Int) (src dst sig:ByteArray) (fields:List ByteArray) (a:1≤kind) (b:kind≤255) (c:0≤seq) (d:seq≤1099511627776) (e:(fields.length:Int)≤8) (f:src.size≤1000) (g:dst.size≤1000)
  (h:¬ anyLong fields=true) (hsg:sig.toList=[]):(!decide (1000<src.size) && !decide (1000<dst.size))=mayB ⟨kind,src,dst,seq,fields,sig⟩:=by
 have hz:sig.size=0:=((qbU sig).1 hsg);have h1:¬ 1000<src.size:=by omega
 have h2:¬ 1000<dst.size:=by omega
 have h3:fields.length≤8:=by omega
 simp only [mayB];simp [*]
end Go.Proofs.YtjmfkinedhmglaaDoor.Wi
namespace Go.Proofs.YtjmfkinedhmglaaDoor.Wi
set_option linter.unusedSimpArgs false
set_option linter.unusedVariables false
set_option maxRecDepth 100000
set_option maxHeartbeats 4000000
open Go.ChangeShapes Go.WideShapes Go.ChangeAt Go.RowKit Go.Joins
theorem cells_msg:Tryd.prog.cellsOf 25=6:=by kernel_rfl
theorem cells_str:Tryd.prog.cellsOf 9=1:=by kernel_rfl
theorem open_msg {H:Type} {enc:TypeId × Value→H} {W:World} {base:Nat} {r:Reach} {b0:Nat} {sp:Nat→Bool} {held:Bool} {v:Value} {d:DataW H} {p:List MemPlace}
  (hv:Value.okWide Tryd.prog W r b0 25 v) (h:DataW.Trod enc Tryd.prog W base sp held 25 v d p) :
  ∃ (m:MsgD) (A:Option Addr) (c:Nat),v=.agg (msgCells m A c)∧Rd W W.heap.size A (strsV m.fields)∧m.fields.length≤c∧MsgOk m:=by
 obtain ⟨c0,c1,c2,c3,c4,c5,y0,y1,y2,y3,y4,y5,n,rfl,_,_,g0,g1,g2,g3,g4,g5⟩:=open_agg6 Tryd.underlying25 (by kernel_rfl) cells_msg hv h;obtain ⟨kind,e0,_,_⟩:=DataW.trod_int Tryd.underlying3 g0;obtain ⟨src,e1,_,z1⟩:=DataW.trod_string Tryd.underlying9 g1;obtain ⟨dst,e2,_,z2⟩:=DataW.trod_string Tryd.underlying9 g2;obtain ⟨seq,e3,_,_⟩:=DataW.trod_int Tryd.underlying3 g3;obtain ⟨A,c,l,e4,q1,q2,q3,q4⟩:=open_strs_rd Tryd.underlying23 Tryd.underlying9 cells_str g4;obtain ⟨sig,e5,_,z5⟩:=DataW.trod_string Tryd.underlying9 g5;simp only [List.cons.injEq,and_true] at e0 e1 e2 e3 e4 e5;subst e0 e1 e2 e3 e4 e5;simp only [maxLen] at z1 z2 z5 q2 q4;exact ⟨⟨kind,src,dst,seq,l,sig⟩,A,c,rfl,q3,q1,⟨by omega,by omega,by omega,by omega,fun s hs=>by have:=q4 s hs; omega⟩⟩
end Go.Proofs.YtjmfkinedhmglaaDoor.Wi
namespace Go.Proofs.YtjmfkinedhmglaaDoor
set_option linter.unusedSimpArgs false
set_option linter.unusedVariables false
set_option maxRecDepth 100000
set_option maxHeartbeats 4000000
open Go.RowKit
theorem own_lt {w:World} {base e size n:Nat} {v:Value} {xs:List Value} (h:w.ownsRow base e size v n xs):∀ k,v.ownBlock=some k→base≤k∧k<w.heap.size:=(OwnX.of h).lt
theorem own_mono {w:World} {base base' e size n:Nat} {v:Value} {xs:List Value} (h:w.ownsRow base e size v n xs) (hb:base'≤base):w.ownsRow base' e size v n xs :=
 ⟨h.1,h.2.elim .inl fun ⟨g,cap,cur,hv,hg,r⟩=>.inr ⟨g,cap,cur,hv,Nat.le_trans hb hg,r⟩⟩
theorem qcU {w:World} {base e size n c:Nat} {A:Option Addr} {xs:List Value} (h:OwnX w base e size (.slice A n c) n xs):n≤c∧c≤9223372036854775807:=by
 rcases h.2 with ⟨hv,hn⟩ | ⟨g,cap,cur,fz,hv,_,_,hnc,hcm,_⟩
 ·injection hv with _ _ h3; omega
 ·injection hv with _ _ h3; unfold maxLen at hcm; omega
section
variable {P:Program}
theorem qb6 {w0:World} {y:Value} {ops:Array Oper} {rest:List Oper} {o:Oper} {a:Act} {Q:Exit→Act→World→Prop} {s x:Operand} {t e:TypeId} {bytes:Nat} (T:SlT P t e 1 bytes)
  (hgd:o.guard=none) (ho:o.op=.call { callee:=.builtin .append,args:=#[s,x],argTypes:=#[t,t] })
  {base n:Nat} {v:Value} {xs:List Value} {ad:Nat} (hown:w0.ownsRow base e 1 v n xs) (hs:a.eval s=v) (hx:a.eval x=.slice (some ⟨ad,0,none⟩) 1 1) (had:ad=w0.heap.size)
  (hy:y.oneCell'=true)
  (h63:n+1≤maxLen) (hbytes:(n+1)*bytes≤140737488355328) (hbase:base≤w0.heap.size)
  (h:∀ A c w',w'.ownsRow base e 1 (.slice A (n+1) c) (n+1) (xs++[y])→w0.grownBy w' v.ownBlock→wpList P ops Q rest (a.put o.dst (.slice A (n+1) c)) w') :
  wpList P ops Q (o :: rest) a (w0.alloc (.cells #[y] e)):=by
 subst had;obtain ⟨i,z,hi,hz,hsz,hby,hzs⟩:=T.info
 obtain ⟨v',w',hr,h2,h3,_,_⟩:=run_append_own_at (P:=P) (w0.alloc (.cells #[y] e)) base t o.type e i z 1 bytes T.und hi hz hsz hby hzs (by omega) v n xs (hown.alloc _) ⟨w0.heap.size,0,none⟩ 1 1 [y] rfl (fun j u hu=>cell_one_new _ _ _ j u hu)
  (by intro u hu; simp at hu; subst hu; exact hy) h63 hbytes (by simp; omega)
 have hv:∃ A c,v'=.slice A (n+1) c:=by
  rcases h2.2 with ⟨_,h0⟩ | ⟨g,cap,cur,rfl,_⟩
  ·omega
  ·exact ⟨_,_,rfl⟩
 obtain ⟨A,c,rfl⟩:=hv;refine qax (R:=fun v' w1=>v'=.slice A (n+1) c∧w1=w') hgd ho hs hx ⟨_,_,hr,rfl,rfl⟩ ?_;rintro v' w1 ⟨rfl,rfl⟩;exact h _ _ _ h2 ((World.grownBy_alloc w0 _ _).trans h3)
end
theorem qbw (m:Nat):(Builtin.zeroCells (Value.cells (.int .u8 0)) m).toList=List.replicate m (.int .u8 0):=by
 apply List.ext_getElem
 ·simp [Builtin.zeroCells,Value.cells]
 ·intro i h1 h2;simp [Builtin.zeroCells,Value.cells];rw [Nat.mod_one];rfl
section
variable {P:Program}
theorem qcx {w:World} {t u ty e:TypeId} (T:SlT P t e 1 1) (hz0:∃ i,P.info? e=some i∧i.zero=some (.int .u8 0)) (hu:P.underlying u=some (.int .i64))
  {base n m:Nat} {v:Value} {xs:List Value} (hown:OwnX w base e 1 v n xs) (hn:0<n) (hm:0<m) (hbytes:n+m≤140737488355328) (hbase:base≤w.heap.size) :
  ∃ A c w',(Builtin.append_ #[t,u] ty #[v,.int .i64 (m:Int)]).run P w=.ok (.slice A (n+m) c) w'∧App w base e 1 v (n+m) (xs++List.replicate m (.int .u8 0)) (.slice A (n+m) c) w':=by
 obtain ⟨i,z,hi,hz,hsz,hby,hzs⟩:=T.info;obtain ⟨i',hi',hz'⟩:=hz0;have:i=i':=by rw [hi] at hi'; exact Option.some.inj hi'
 subst this;have hl:(List.replicate m (Value.int .u8 0)).length=m*1:=by simp
 have hwr:IntKind.i64.wrap (m:Int)=(m:Int):=by rw [IntKind.wrap_i64]; omega
 have hneg:¬ ((m:Int)<0):=by omega
 have hbig:¬ (281474976710656<(m:Int)):=by omega
 have hm0:¬ m=0:=by omega
 have hmax:max (m:Int) 0=(m:Int):=by omega
 rcases hown.2 with ⟨rfl,rfl⟩ | ⟨g,cap,cur,fz,rfl,hbg,hg,hnc,hcm,hcs,htake,hfz⟩
 ·omega
 ·by_cases hroom:n+m≤cap
  ·obtain rfl:fz=(0,0):=by
    rcases hfz with h | h
    ·exact h
    ·omega
   have hadd:(⟨g,0,none⟩:Addr).add n=⟨g,n,none⟩:=by unfold Addr.add; split <;> simp_all
   have hst:=run_storeCells_at P g n e (List.replicate m (.int .u8 0)) 0 cur w hg (by simp; omega) (by intro u hu; rw [List.mem_replicate] at hu; rw [hu.2]; rfl);simp only [Nat.add_zero,List.length_replicate] at hst
   have hr:(Builtin.append_ #[t,u] ty #[.slice (some ⟨g,0,none⟩) n cap,.int .i64 (m:Int)]).run P w=.ok (.slice (some ⟨g,0,none⟩) (n+m) cap) (w.setRow g (cur.toList.take n++List.replicate m (Value.int .u8 0)++cur.toList.drop (n+m)).toArray):=by
    simp [Builtin.append_,run_underlying T.und,run_underlying hu,sizeOf,typeInfo,zeroValue,hi,hz',hsz,hby,asInt,asIntOf,hwr,hneg,hbig,hm0,hmax,hadd,Builtin.lenOf,hroom,Addr.add_lit,qbw,hst]
   refine ⟨_,_,_,hr,.of ⟨by rw [List.length_append,hl,hown.1,Nat.add_mul],.inr ⟨g,cap,_,rfl,hbg,setRow_heap w g cur _ e _ hg,hroom,hcm,?_,?_⟩⟩,⟨rfl,rfl,rfl,by simp,fun k _ hk=>setRow_other w g k _ (fun e=>hk (by simp [Value.ownBlock,e]))⟩,.inl rfl⟩
   ·simp only [List.size_toArray,List.length_append,List.length_take,List.length_drop,Array.length_toList,List.length_replicate];omega
   ·have ht':cur.toList.take n=xs:=by simpa using htake
    have hxl:xs.length=n:=by simpa using hown.1
    rw [ht',show (n+m)*1=(xs++List.replicate m (Value.int .u8 0)).length by rw [List.length_append,List.length_replicate]; omega];exact List.take_left
  ·have holds:=hown.cells (g:=g) rfl;have h63':¬ (9223372036854775807<((n:Int)+(m:Int))):=by omega
   have h48':¬ (281474976710656<Builtin.nextslicecap (n+m) cap):=by have:=growslice_fits (bytes:=1) (need:=n+m) (old:=cap) (by omega) (by omega); omega
   have hfo:=run_firstCells_some (P:=P) w.drew 1 n ⟨g,0,none⟩ n cap xs hown.1 (by simpa using holds)
   have hr:(Builtin.append_ #[t,u] ty #[.slice (some ⟨g,0,none⟩) n cap,.int .i64 (m:Int)]).run P w=.ok (.slice (some ⟨w.heap.size,0,none⟩) (n+m) (grownCap w (n+m) cap e))
     (w.drew.alloc (.cells (xs.toArray++(List.replicate m (Value.int .u8 0)).toArray++Builtin.zeroCells (Value.cells (.int .u8 0)) (grownCap w (n+m) cap e - (n+m))) e)):=by
    have hzc:Builtin.zeroCells (Value.cells (.int .u8 0)) m=(List.replicate m (Value.int .u8 0)).toArray:=by apply Array.ext'; rw [qbw]
    simp [Builtin.append_,run_underlying T.und,run_underlying hu,sizeOf,typeInfo,zeroValue,hi,hz',hsz,hby,asInt,asIntOf,hwr,hneg,hbig,hm0,hmax,hroom,h63',h48',Question.forced,hfo,newRow,grownCap,hzc]
   exact ⟨_,_,_,hr,.of (qbD hown.1 hl rfl (by unfold maxLen; omega) hbase),qaR _ _ _,.inr fun k hk=>by simp [Value.ownBlock] at hk; omega⟩
theorem qbX {w:World} {ops:Array Oper} {rest:List Oper} {o:Oper} {a:Act} {Q:Exit→Act→World→Prop} {sl x:Operand} {t u e:TypeId} (T:SlT P t e 1 1)
  (hz:∃ i,P.info? e=some i∧i.zero=some (.int .u8 0)) (hu:P.underlying u=some (.int .i64))
  (hgd:o.guard=none) (ho:o.op=.call { callee:=.builtin .append,args:=#[sl,x],argTypes:=#[t,u] })
  {base n m:Nat} {v:Value} {xs:List Value} (hown:OwnX w base e 1 v n xs) (hs:a.eval sl=v) (hx:a.eval x=.int .i64 (m:Int))
  (hn:0<n) (hm:0<m) (hbytes:n+m≤140737488355328) (hbase:base≤w.heap.size)
  (h:∀ A c w',OwnX w' base e 1 (.slice A (n+m) c) (n+m) (xs++List.replicate m (.int .u8 0))→w.grownBy w' v.ownBlock→Next w v (.slice A (n+m) c)→wpList P ops Q rest (a.put o.dst (.slice A (n+m) c)) w') :
  wpList P ops Q (o :: rest) a w:=by
 obtain ⟨A,c,w',hr,h2,h3,h4⟩:=qcx (ty:=o.type) T hz hu hown hn hm hbytes hbase;refine qax (R:=fun v' w1=>v'=.slice A (n+m) c∧w1=w') hgd ho hs hx ⟨_,_,hr,rfl,rfl⟩ ?_;rintro v' w1 ⟨rfl,rfl⟩;exact h _ _ _ h2 h3 h4
end
structure E5 where
 a:Nat
 b:Nat
 c:Nat
 d:Nat
 e:Nat
def PN:Nat:=57896044618658097711785492504343953926634992332820282019728792003956564819949
def E5.val (x:E5):Nat:=x.a+x.b*2251799813685248+x.c*5070602400912917605986812821504+x.d*11417981541647679048466287755595961091061972992+x.e*25711008708143844408671393477458601640355247900524685364822016
structure E5.Lt (x:E5) (m:Nat):Prop where
 a:x.a<m
 b:x.b<m
 c:x.c<m
 d:x.d<m
 e:x.e<m
theorem E5.Lt.mono {x:E5} {m n:Nat} (h:x.Lt m) (hm:m≤n):x.Lt n:=⟨Nat.lt_of_lt_of_le h.a hm,Nat.lt_of_lt_of_le h.b hm,Nat.lt_of_lt_of_le h.c hm,Nat.lt_of_lt_of_le h.d hm,Nat.lt_of_lt_of_le h.e hm⟩
def carryE (x:E5):E5:=⟨x.a%2251799813685248+x.e/2251799813685248*19,x.b%2251799813685248+x.a/2251799813685248,x.c%2251799813685248+x.b/2251799813685248,x.d%2251799813685248+x.c/2251799813685248,x.e%2251799813685248+x.d/2251799813685248⟩
theorem carry_val (x:E5):(carryE x).val+x.e/2251799813685248*PN=x.val:=by
 simp only [carryE,E5.val,PN];omega
theorem qbs (x:E5):(carryE x).val%PN=x.val%PN:=by
 rw [← carry_val x,Nat.add_mul_mod_self_right]
theorem qbS {x:E5} (h:x.Lt 18446744073709551616):(carryE x).Lt 2251799813947392:=by
 obtain ⟨h1,h2,h3,h4,h5⟩:=h
 constructor <;> simp only [carryE] <;> omega
theorem carry_lt2 {x:E5} (h:x.Lt 2251799813947392):(carryE x).a<2251799813685267∧(carryE x).b<2251799813685249∧(carryE x).c<2251799813685249∧(carryE x).d<2251799813685249∧(carryE x).e<2251799813685249:=by
 obtain ⟨h1,h2,h3,h4,h5⟩:=h;simp only [carryE];refine ⟨?_,?_,?_,?_,?_⟩ <;> omega
def overP (x:E5):Nat:=(x.e+(x.d+(x.c+(x.b+(x.a+19)/2251799813685248)/2251799813685248)/2251799813685248)/2251799813685248)/2251799813685248
def leastQ (x:E5) (q:Nat):E5 :=
 let a:=x.a+19*q
 let b:=x.b+a/2251799813685248
 let c:=x.c+b/2251799813685248
 let d:=x.d+c/2251799813685248
 let e:=x.e+d/2251799813685248
 ⟨a%2251799813685248,b%2251799813685248,c%2251799813685248,d%2251799813685248,e%2251799813685248⟩
def leastE (x:E5):E5:=leastQ (carryE (carryE x)) (overP (carryE (carryE x)))
theorem overP_eq (x:E5):overP x=(x.val+19)/57896044618658097711785492504343953926634992332820282019728792003956564819968:=by
 simp only [overP,E5.val];omega
theorem leastQ_lt (x:E5) (q:Nat):(leastQ x q).Lt 2251799813685248:=by
 constructor <;> exact Nat.mod_lt _ (by decide)
theorem leastQ_val (x:E5) (q:Nat):(leastQ x q).val=(x.val+19*q)%57896044618658097711785492504343953926634992332820282019728792003956564819968:=by
 simp only [leastQ,E5.val];omega
theorem qcE (x:E5):(leastE x).Lt 2251799813685248:=leastQ_lt _ _
theorem qbE {x:E5} (h:x.Lt 18446744073709551616):(leastE x).val=x.val%PN:=by
 obtain ⟨h1,h2,h3,h4,h5⟩:=carry_lt2 (qbS h);have hm:(carryE (carryE x)).val%PN=x.val%PN:=by rw [qbs,qbs]
 rw [← hm,leastE,leastQ_val,overP_eq];generalize carryE (carryE x)=y at *
 have hv:y.val<2*PN:=by
  simp only [E5.val,PN];omega
 generalize y.val=v at *
 by_cases hp:v<PN
 ·have hq:(v+19)/57896044618658097711785492504343953926634992332820282019728792003956564819968=0:=Nat.div_eq_of_lt (by simp only [PN] at hp; omega);rw [hq,Nat.mod_eq_of_lt hp,Nat.mod_eq_of_lt (by simp only [PN] at hp; omega)];omega
 ·have hq:(v+19)/57896044618658097711785492504343953926634992332820282019728792003956564819968=1:=by simp only [PN] at hp hv; omega
  have e:v%PN=v - PN:=by rw [Nat.mod_eq_sub_mod (by omega),Nat.mod_eq_of_lt (by omega)]
  rw [hq,e];simp only [PN] at hp hv ⊢;omega
theorem least_inj {x y:E5} (hx:x.Lt 2251799813685248) (hy:y.Lt 2251799813685248) (h:x.val=y.val):x=y:=by
 obtain ⟨a1,b1,c1,d1,e1⟩:=x;obtain ⟨a2,b2,c2,d2,e2⟩:=y;obtain ⟨h1,h2,h3,h4,h5⟩:=hx;obtain ⟨k1,k2,k3,k4,k5⟩:=hy;simp only [E5.val] at *;have e0:a1=a2:=by omega
 subst e0;have e0:b1=b2:=by omega
 subst e0;have e0:c1=c2:=by omega
 subst e0;have e0:d1=d2:=by omega
 subst e0;have e0:e1=e2:=by omega
 subst e0;rfl
def addE (x y:E5):E5:=carryE ⟨x.a+y.a,x.b+y.b,x.c+y.c,x.d+y.d,x.e+y.e⟩
def subE (x y:E5):E5 :=
 let z:=carryE y
 carryE ⟨x.a+(4503599627370458 - z.a),x.b+(4503599627370494 - z.b),x.c+(4503599627370494 - z.c),x.d+(4503599627370494 - z.d),x.e+(4503599627370494 - z.e)⟩
abbrev E5.Ok (x:E5):Prop:=x.Lt 4503599627370496
theorem carry_ok {x:E5} (h:x.Lt 18446744073709551616):(carryE x).Ok:=(qbS h).mono (by decide)
theorem E5.Ok.big {x:E5} (h:x.Ok):x.Lt 18446744073709551616:=E5.Lt.mono h (by decide)
theorem qaT {x y:E5} (hx:x.Ok) (hy:y.Ok):(addE x y).Ok:=by
 obtain ⟨h1,h2,h3,h4,h5⟩:=hx;obtain ⟨k1,k2,k3,k4,k5⟩:=hy;exact carry_ok ⟨by dsimp only; omega,by dsimp only; omega,by dsimp only; omega,by dsimp only; omega,by dsimp only; omega⟩
theorem add_val (x y:E5):(addE x y).val%PN=(x.val+y.val)%PN:=by
 rw [addE,qbs]
 congr 1
 simp only [E5.val];omega
theorem qaP {x y:E5} (hx:x.Ok) (hy:y.Ok):(subE x y).Ok:=by
 obtain ⟨h1,h2,h3,h4,h5⟩:=hx;exact carry_ok ⟨by dsimp only; omega,by dsimp only; omega,by dsimp only; omega,by dsimp only; omega,by dsimp only; omega⟩
theorem sub_val {x y:E5} (hy:y.Ok):((subE x y).val+y.val)%PN=x.val%PN:=by
 obtain ⟨h1,h2,h3,h4,h5⟩:=qbS hy.big;have hz:=carry_val y;have e:(subE x y).val%PN=(⟨x.a+(4503599627370458 - (carryE y).a),x.b+(4503599627370494 - (carryE y).b),x.c+(4503599627370494 - (carryE y).c),x.d+(4503599627370494 - (carryE y).d),x.e+(4503599627370494 - (carryE y).e)⟩:E5).val%PN:=qbs _;rw [Nat.add_mod,e,← Nat.add_mod,← hz];generalize carryE y=z at *;generalize y.e/2251799813685248=k at *
 have e2:(⟨x.a+(4503599627370458 - z.a),x.b+(4503599627370494 - z.b),x.c+(4503599627370494 - z.c),x.d+(4503599627370494 - z.d),x.e+(4503599627370494 - z.e)⟩:E5).val+z.val=x.val+2*PN:=by
  simp only [E5.val,PN];omega
 rw [← Nat.add_assoc,e2,Nat.add_mul_mod_self_right,Nat.mul_comm,Nat.add_mul_mod_self_left]
def mulR (x y:E5):E5 :=
 ⟨x.a*y.a+(x.b*19)*y.e+(x.c*19)*y.d+(x.d*19)*y.c+(x.e*19)*y.b,
  x.a*y.b+x.b*y.a+(x.c*19)*y.e+(x.d*19)*y.d+(x.e*19)*y.c,
  x.a*y.c+x.b*y.b+x.c*y.a+(x.d*19)*y.e+(x.e*19)*y.d,
  x.a*y.d+x.b*y.c+x.c*y.b+x.d*y.a+(x.e*19)*y.e,
  x.a*y.e+x.b*y.d+x.c*y.c+x.d*y.b+x.e*y.a⟩
def mulE (x y:E5):E5:=carryE (carryE (mulR x y))
theorem mulR_poly (a b c d e p q r s t C:Nat) :
  (a+b*C+c*(C*C)+d*(C*C*C)+e*(C*C*C*C))*(p+q*C+r*(C*C)+s*(C*C*C)+t*(C*C*C*C))+19*((b*t+c*s+d*r+e*q)+(c*t+d*s+e*r)*C+(d*t+e*s)*(C*C)+e*t*(C*C*C)) =
  (a*p+(b*19)*t+(c*19)*s+(d*19)*r+(e*19)*q)+(a*q+b*p+(c*19)*t+(d*19)*s+(e*19)*r)*C+(a*r+b*q+c*p+(d*19)*t+(e*19)*s)*(C*C)+(a*s+b*r+c*q+d*p+(e*19)*t)*(C*C*C)+(a*t+b*s+c*r+d*q+e*p)*(C*C*C*C)
  + (C*C*C*C*C)*((b*t+c*s+d*r+e*q)+(c*t+d*s+e*r)*C+(d*t+e*s)*(C*C)+e*t*(C*C*C)):=by grind
theorem mulR_val (x y:E5):(mulR x y).val%PN=(x.val*y.val)%PN:=by
 have h:=mulR_poly x.a x.b x.c x.d x.e y.a y.b y.c y.d y.e 2251799813685248;generalize hk:(x.b*y.e+x.c*y.d+x.d*y.c+x.e*y.b)+(x.c*y.e+x.d*y.d+x.e*y.c)*2251799813685248+(x.d*y.e+x.e*y.d)*(2251799813685248*2251799813685248)+x.e*y.e*(2251799813685248*2251799813685248*2251799813685248)=k at h;have e1:x.val*y.val+19*k=(mulR x y).val+(PN+19)*k:=h
 have e2:x.val*y.val=(mulR x y).val+PN*k:=by
  rw [Nat.add_mul] at e1; omega
 rw [e2,Nat.add_mul_mod_self_left]
theorem mul_val (x y:E5):(mulE x y).val%PN=(x.val*y.val)%PN:=by rw [mulE,qbs,qbs,mulR_val]
theorem qcW {a b m n:Nat} (ha:a<m) (hb:b<n):a*b≤(m - 1)*(n - 1):=Nat.mul_le_mul (by omega) (by omega)
theorem mulR_lt {x y:E5} (hx:x.Ok) (hy:y.Ok):(mulR x y).Lt 2596148429267413814265248164610048∧(mulR x y).e<162259276829213363391578010288128:=by
 obtain ⟨h1,h2,h3,h4,h5⟩:=hx;obtain ⟨k1,k2,k3,k4,k5⟩:=hy;have m:∀ {a b:Nat},a<4503599627370496→b<4503599627370496→a*b≤20282409603651661416747996545025:=fun ha hb=>Nat.le_trans (qcW ha hb) (by decide)
 have n:∀ {a b:Nat},a<4503599627370496→b<4503599627370496→(a*19)*b≤385365782469381566918211934355475:=fun {a b} ha hb=>by
  have:=m ha hb;rw [Nat.mul_right_comm]; omega
 have a1:=m h1 k1; have a2:=n h2 k5; have a3:=n h3 k4; have a4:=n h4 k3; have a5:=n h5 k2;have b1:=m h1 k2; have b2:=m h2 k1; have b3:=n h3 k5; have b4:=n h4 k4; have b5:=n h5 k3;have c1:=m h1 k3; have c2:=m h2 k2; have c3:=m h3 k1; have c4:=n h4 k5; have c5:=n h5 k4;have d1:=m h1 k4; have d2:=m h2 k3; have d3:=m h3 k2; have d4:=m h4 k1; have d5:=n h5 k5;have e1:=m h1 k5; have e2:=m h2 k4; have e3:=m h3 k3; have e4:=m h4 k2; have e5:=m h5 k1;refine ⟨⟨?_,?_,?_,?_,?_⟩,?_⟩ <;> simp only [mulR] <;> omega
theorem mul_big {x y:E5} (hx:x.Ok) (hy:y.Ok):(carryE (mulR x y)).Lt 18446744073709551616:=by
 obtain ⟨⟨h1,h2,h3,h4,h5⟩,h6⟩:=mulR_lt hx hy;generalize mulR x y=r at *
 constructor <;> simp only [carryE] <;> omega
theorem qaq {x y:E5} (hx:x.Ok) (hy:y.Ok):(mulE x y).Ok:=carry_ok (mul_big hx hy)
theorem below_new (w:World) (o:Obj):Below w.heap.size w (w.alloc o):=(Below.refl _ _).alloc (Nat.le_refl _) _
theorem qad:(Tryd.prog.info? 46).map (·.size)=some 5:=by kernel_rfl
theorem qcc:(Tryd.prog.info? 44).map (·.size)=some 5:=by kernel_rfl
theorem one64:(Tryd.prog.info? 43).map (·.size)=some 1:=by kernel_rfl
def limbs (x:E5):List Nat:=[x.a,x.b,x.c,x.d,x.e]
def wV (l:List Nat):Array Value:=(l.map fun n:Nat=>Value.int .u64 (n:Int)).toArray
def eV (x:E5):Array Value:=wV (limbs x)
def mixV (x y:E5) (k:Nat):Array Value:=wV ((limbs x).take k++(limbs y).drop k)
theorem qbO (x y:E5):mixV x y 5=eV x:=rfl
theorem eV_size (x:E5):(eV x).size=5:=rfl
theorem eV_at (x:E5) (k:Nat) (h:k<5):(eV x)[k]?=some (.int .u64 (((limbs x).getD k 0:Nat):Int)):=by
 match k,h with
 | 0,_=>rfl
 | 1,_=>rfl
 | 2,_=>rfl
 | 3,_=>rfl
 | 4,_=>rfl
theorem qb3 (x y:E5) (k:Nat) (h:k<5):(mixV x y k)[k]?=some (.int .u64 (((limbs y).getD k 0:Nat):Int)):=by
 match k,h with
 | 0,_=>rfl
 | 1,_=>rfl
 | 2,_=>rfl
 | 3,_=>rfl
 | 4,_=>rfl
theorem qbN (x y:E5) (k:Nat) (h:k<5):(mixV x y k).setIfInBounds k (.int .u64 (((limbs x).getD k 0:Nat):Int))=mixV x y (k+1):=by
 match k,h with
 | 0,_=>rfl
 | 1,_=>rfl
 | 2,_=>rfl
 | 3,_=>rfl
 | 4,_=>rfl
theorem qaN {x:E5} {m:Nat} (h:x.Lt m) (hm:0<m) (k:Nat):(limbs x).getD k 0<m:=by
 match k with
 | 0=>exact h.a
 | 1=>exact h.b
 | 2=>exact h.c
 | 3=>exact h.d
 | 4=>exact h.e
 | k+5=>exact hm
def zE:E5:=⟨0,0,0,0,0⟩
def highE (x:E5):E5:=⟨x.a/2251799813685248,x.b/2251799813685248,x.c/2251799813685248,x.d/2251799813685248,x.e/2251799813685248⟩
theorem qcF (x:E5) (k:Nat) (h:k<5):(limbs (highE x)).getD k 0=(limbs x).getD k 0/2251799813685248:=by
 match k,h with
 | 0,_=>rfl
 | 1,_=>rfl
 | 2,_=>rfl
 | 3,_=>rfl
 | 4,_=>rfl
theorem carryE_at (x:E5) (k:Nat) (h:k<5):(limbs (carryE x)).getD k 0=(limbs x).getD k 0%2251799813685248+(if k=0 then (limbs (highE x)).getD 4 0*19 else (limbs (highE x)).getD (k - 1) 0):=by
 match k,h with
 | 0,_=>rfl
 | 1,_=>rfl
 | 2,_=>rfl
 | 3,_=>rfl
 | 4,_=>rfl
structure F3 (w0:World) (g r h:Nat) (x z y:Array Value) (u:World):Prop where
 bel:Below w0.heap.size w0 u
 x:Blk u g 46 x
 z:Blk u r 46 z
 y:Blk u h 44 y
 lg:w0.heap.size≤g
 lr:w0.heap.size≤r
 lh:w0.heap.size≤h
 gh:g≠h
 gr:g≠r
 rh:r≠h
theorem F3.putX {w0 u u':World} {g r h:Nat} {x z y x':Array Value} (k:F3 w0 g r h x z y u) (hw:Wrote g u u') (hb:Blk u' g 46 x'):F3 w0 g r h x' z y u' :=
 ⟨hw.below k.bel k.lg k.bel.size,hb,hw.blk k.z (Ne.symm k.gr),hw.blk k.y (Ne.symm k.gh),k.lg,k.lr,k.lh,k.gh,k.gr,k.rh⟩
theorem F3.putY {w0 u u':World} {g r h:Nat} {x z y y':Array Value} (k:F3 w0 g r h x z y u) (hw:Wrote h u u') (hb:Blk u' h 44 y'):F3 w0 g r h x z y' u' :=
 ⟨hw.below k.bel k.lh k.bel.size,hw.blk k.x k.gh,hw.blk k.z k.rh,hb,k.lg,k.lr,k.lh,k.gh,k.gr,k.rh⟩
theorem qcY (l:Nat) (h:l<18446744073709551616):bits .and .u64 (l:Int) 2251799813685247=((l%2251799813685248:Nat):Int):=by
 have h1:=and64 l 2251799813685247 h (by decide);rw [show ((2251799813685247:Nat):Int)=2251799813685247 from rfl] at h1;rw [h1]
 congr 1
 exact Nat.and_two_pow_sub_one_eq_mod l 51
theorem mask_sum (l v:Nat) (h:l<18446744073709551616) (hv:v<18444492273895866368):IntKind.u64.wrap (bits .and .u64 (l:Int) 2251799813685247+(v:Int))=((l%2251799813685248+v:Nat):Int):=by
 rw [qcY l h,IntKind.wrap_u64]; omega
theorem mask_sum19 (l v:Nat) (h:l<18446744073709551616) (hv:v<900000000000000000):IntKind.u64.wrap (bits .and .u64 (l:Int) 2251799813685247+(v:Int)*19)=((l%2251799813685248+v*19:Nat):Int):=by
 rw [qcY l h,IntKind.wrap_u64]; omega
def ElemPost (x:E5) (w:World) (e:Ending) (w':World):Prop:=e=.returned (.agg (eV x))∧Below w.heap.size w w'
theorem Blk.newAt {w:World} {n:Nat} {t:TypeId} {cs:Array Value} (h:w.heap.size=n):Blk (w.alloc (.cells cs t)) n t cs:=h▸Blk.new w t cs
theorem qba (x:E5) (w:World) (hx:x.Lt 18446744073709551616):Calls Tryd.prog 61 #[.agg (eV x)] w (ElemPost (carryE x) w):=by
 have hu:=Tryd.underlying46;have hu5:=Tryd.underlying44
 have hst0:F3 w w.heap.size (w.heap.size+1) (w.heap.size+1+1) (eV x) (eV zE) (mixV (highE x) zE 0) (((w.alloc (.cells (eV x) 46)).alloc (.cells (eV zE) 46)).alloc (.cells (eV zE) 44)) :=
  ⟨((below_new _ _).alloc (by simp) _).alloc (by simp; try omega) _,((Blk.new _ _ _).alloc _).alloc _,(Blk.newAt (by simp)).alloc _,Blk.newAt (by simp),Nat.le_refl _,by omega,by omega,by omega,by omega,by omega⟩
 have HX:=zY hx;have HST0:=zY hst0;clear hx;go_enter Tryd.func61,Tryd.ntmps61;go_wp2_with (refine qah (x:=.tmp 8) (n:=5) (r:=eV x) hst0.x (by rw [eV_size]; decide) rfl rfl rfl rfl hu5 rfl qcc ?_);clear hst0;generalize hc:w.heap.size+1+1=c at *;generalize hr:w.heap.size+1=r at *;generalize hg:w.heap.size=g at *;have HC:=zY hc;have HR:=zY hr;have HG:=zY hg;clear hc hr hg
 go_loopw [10] (fun i wr=>∃ k:Nat,k≤5∧i=.int .i64 k∧F3 w g r c (eV x) (eV zE) (mixV (highE x) zE k) wr) (fun i _=>5 - (intOf i).toNat)
 case atStart=>exact ⟨0,by omega,rfl,HST0.out⟩
 case round =>
  clear HST0;obtain ⟨k,hk,rfl,hst⟩:=hrel
  by_cases hlt:k<5
  ·have hlt':(k:Int)<5:=by omega
   obtain ⟨l,hl⟩:=eX ((limbs x).getD k 0);have hll:(l:Int)<18446744073709551616:=by have:=qaN HX.out (by decide) k; rw [← hl] at this; omega
   have hix:∀ u:World,(Instr.index 44 (.agg (eV x)) (.int .i64 (k:Int))).run Tryd.prog u=.ok (.int .u64 (l:Int)) u:=fun u =>
    qaH (n:=5) (e:=43) hu5 hlt (by rw [hl]; exact eV_at x k hlt) (by kernel_rfl) (by kernel_rfl) ⟨_,Tryd.underlying43⟩
   have d0:=hst.y.cell k;rw [qb3 _ _ _ hlt] at d0;have f0:=hst.y.free k;have hset:=qbN (highE x) zE k hlt;rw [qcF _ _ hlt,← hl] at hset;have HSET:=zY hset;have HST:=zY hst;clear hset hst hl;go_wp2_with fail;refine ⟨⟨k+1,by omega,by go_num,HST.out.putY (qaf _ _ _ _) ?_⟩,by simp [intOf]; omega⟩;have h:=qag (i:=k) HST.out.y (.int .u64 ((l/2251799813685248:Nat):Int));rw [HSET.out] at h;exact h
  ·obtain rfl:k=5:=by omega
   rw [qbO] at hst;have hst1:F3 w g r c (mixV (carryE x) x 0) (eV zE) (eV (highE x)) wr:=hst;have HST:=zY hst1;clear hst hst1;go_wp2_with fail;obtain ⟨wo,rfl⟩:∃ x:World,x=wr:=⟨_,rfl⟩
   go_loopw [19] (fun i wr=>∃ k:Nat,k≤5∧i=.int .i64 k∧F3 w g r c (mixV (carryE x) x k) (eV zE) (eV (highE x)) wr) (fun i _=>5 - (intOf i).toNat)
   case atStart=>exact ⟨0,by omega,rfl,HST.out⟩
   case round =>
    clear HST;obtain ⟨k,hk,rfl,hst⟩:=hrel
    by_cases hlt2:k<5
    ·obtain ⟨l,hl⟩:=eX ((limbs x).getD k 0);have hll0:=qaN HX.out (by decide) k;rw [← hl] at hll0;have hll:(l:Int)<18446744073709551616:=by omega
     obtain ⟨j,hj⟩:=eX (if k=0 then 4 else k - 1);have hj5:j<5:=by rw [hj]; split <;> omega
     have hjk:((k:Int)+5 - 1)%5=(j:Int):=by rw [hj]; split <;> omega
     have hjk2:((k:Int)+4)%5=(j:Int):=by rw [hj]; split <;> omega
     obtain ⟨m,hm⟩:=eX ((limbs (highE x)).getD j 0)
     have hml:m<8192:=by
      have:=qaN HX.out (by decide) j;rw [hm,qcF _ _ hj5]; omega
     have hml':(m:Int)<8192:=by omega
     have dx:=hst.x.cell k;rw [qb3 _ _ _ hlt2,← hl] at dx;have fx:=hst.x.free k;have dy:=hst.y.cell j;rw [eV_at _ _ hj5,← hm] at dy;have hset:=qbN (carryE x) x k hlt2
     have hval:(limbs (carryE x)).getD k 0=l%2251799813685248+(if k=0 then m*19 else m):=by
      rw [carryE_at _ _ hlt2,← hl,hm,hj]
      by_cases h0:k=0
      ·simp [h0]
      ·simp [h0]
     rw [hval] at hset;have HSET:=zY hset;have HST:=zY hst;have HJ:=zY hj;have hlt':(k:Int)<5:=by omega
     clear hset hst hl hm hval hj
     by_cases h0:k=0
     ·subst h0;obtain rfl:j=4:=by have:=HJ.out; simpa using this
      rw [show ((0:Nat):Int)=0 from rfl];clear hjk hjk2 hlt' hlt2;go_wp2_with fail;refine ⟨⟨1,by omega,rfl,HST.out.putX (qaf _ _ _ _) ?_⟩,by simp [intOf]⟩;rw [mask_sum19 l m hll0 (by omega)];have h:=qag (i:=0) HST.out.x (.int .u64 ((l%2251799813685248+m*19:Nat):Int));have h2:=HSET.out;rw [if_pos rfl] at h2;rw [h2] at h;exact h
     ·have hb:((k:Int) == 0)=false:=by rw [beq_eq_false_iff_ne]; omega
      go_wp2_with fail;refine ⟨⟨k+1,by omega,by go_num,HST.out.putX (qaf _ _ _ _) ?_⟩,by simp [intOf]; omega⟩;rw [mask_sum l m hll0 (by omega)];have h:=qag (i:=k) HST.out.x (.int .u64 ((l%2251799813685248+m:Nat):Int));have h2:=HSET.out;rw [if_neg h0] at h2;rw [h2] at h;exact h
    ·obtain rfl:k=5:=by omega
     rw [qbO] at hst;have HST:=zY hst;clear hst
     go_wp2_with (first
      | (refine qac (x:=.tmp 1) HST.out.x rfl rfl rfl hu rfl qad ?_)
      | (refine qae (x:=.tmp 2) (cells:=eV (carryE x)) HST.out.z rfl rfl rfl rfl qad rfl (by simp [eV,wV,limbs,Value.oneCell']) ?_; intro w5 hb5 hw5))
     refine bodyPost_ret (qap (P:=Tryd.prog) rfl rfl hb5 hu rfl qad) rfl ⟨rfl,?_⟩;exact hw5.below HST.out.bel HST.out.lr HST.out.bel.size
def rawAdd (x y:E5):E5:=⟨x.a+y.a,x.b+y.b,x.c+y.c,x.d+y.d,x.e+y.e⟩
theorem rawAdd_at (x y:E5) (k:Nat) (h:k<5):(limbs (rawAdd x y)).getD k 0=(limbs x).getD k 0+(limbs y).getD k 0:=by
 match k,h with
 | 0,_=>rfl
 | 1,_=>rfl
 | 2,_=>rfl
 | 3,_=>rfl
 | 4,_=>rfl
def rawSub (x z:E5):E5:=⟨x.a+(4503599627370458 - z.a),x.b+(4503599627370494 - z.b),x.c+(4503599627370494 - z.c),x.d+(4503599627370494 - z.d),x.e+(4503599627370494 - z.e)⟩
theorem rawSub_at (x y:E5) (k:Nat) (h:k<5):(limbs (rawSub x y)).getD k 0=(limbs x).getD k 0+((if k=0 then 4503599627370458 else 4503599627370494) - (limbs y).getD k 0):=by
 match k,h with
 | 0,_=>rfl
 | 1,_=>rfl
 | 2,_=>rfl
 | 3,_=>rfl
 | 4,_=>rfl
structure G3 (w0:World) (g h r:Nat) (x y z:Array Value) (u:World):Prop where
 bel:Below w0.heap.size w0 u
 x:Blk u g 46 x
 y:Blk u h 46 y
 z:Blk u r 46 z
 lg:w0.heap.size≤g
 lh:w0.heap.size≤h
 lr:w0.heap.size≤r
 gh:g≠h
 gr:g≠r
 hr:h≠r
theorem G3.putX {w0 u u':World} {g h r:Nat} {x y z x':Array Value} (k:G3 w0 g h r x y z u) (hw:Wrote g u u') (hb:Blk u' g 46 x'):G3 w0 g h r x' y z u' :=
 ⟨hw.below k.bel k.lg k.bel.size,hb,hw.blk k.y (Ne.symm k.gh),hw.blk k.z (Ne.symm k.gr),k.lg,k.lh,k.lr,k.gh,k.gr,k.hr⟩
theorem G3.putY {w0 u u':World} {g h r:Nat} {x y z y':Array Value} (k:G3 w0 g h r x y z u) (hw:Wrote h u u') (hb:Blk u' h 46 y'):G3 w0 g h r x y' z u' :=
 ⟨hw.below k.bel k.lh k.bel.size,hw.blk k.x k.gh,hb,hw.blk k.z (Ne.symm k.hr),k.lg,k.lh,k.lr,k.gh,k.gr,k.hr⟩
theorem G3.drew {w0 u:World} {g h r:Nat} {x y z:Array Value} (k:G3 w0 g h r x y z u):G3 w0 g h r x y z u.drew :=
 ⟨k.bel.drew,k.x,k.y,k.z,k.lg,k.lh,k.lr,k.gh,k.gr,k.hr⟩
theorem G3.next {w0 u u':World} {g h r:Nat} {x y z:Array Value} (k:G3 w0 g h r x y z u) (hb:Below u.heap.size u u'):G3 w0 g h r x y z u' :=
 ⟨k.bel.trans (hb.mono k.bel.size),k.x.below hb k.x.lt,k.y.below hb k.y.lt,k.z.below hb k.z.lt,k.lg,k.lh,k.lr,k.gh,k.gr,k.hr⟩
theorem g3_new (w:World) (x y z:Array Value):G3 w w.heap.size (w.heap.size+1) (w.heap.size+1+1) x y z (((w.alloc (.cells x 46)).alloc (.cells y 46)).alloc (.cells z 46)) :=
 ⟨((below_new _ _).alloc (by simp) _).alloc (by simp; try omega) _,((Blk.new _ _ _).alloc _).alloc _,(Blk.newAt (by simp)).alloc _,Blk.newAt (by simp),Nat.le_refl _,by omega,by omega,by omega,by omega,by omega⟩
theorem add_w64' (a b:Nat) (h:a+b<18446744073709551616):IntKind.u64.wrap ((a:Int)+(b:Int))=((a+b:Nat):Int):=by
 rw [IntKind.wrap_u64]; omega
theorem add_any (x y:E5) (w:World) (hx:x.Lt 9223372036854775808) (hy:y.Lt 9223372036854775808):Calls Tryd.prog 44 #[.agg (eV x),.agg (eV y)] w (ElemPost (addE x y) w):=by
 have hu:=Tryd.underlying46;have hst0:G3 w w.heap.size (w.heap.size+1) (w.heap.size+1+1) (mixV (rawAdd x y) x 0) (eV y) (eV zE) _:=g3_new w (eV x) (eV y) (eV zE);have HX:=zY hx;have HY:=zY hy;have HST0:=zY hst0;clear hx hy hst0;go_enter Tryd.func44,Tryd.ntmps44;go_wp2_with fail;generalize hr:w.heap.size+1+1=r at *;generalize hh:w.heap.size+1=h at *;generalize hg:w.heap.size=g at *;have HR:=zY hr;have HH:=zY hh;have HG:=zY hg;clear hr hh hg
 go_loopw [6] (fun i wr=>∃ k:Nat,k≤5∧i=.int .i64 k∧G3 w g h r (mixV (rawAdd x y) x k) (eV y) (eV zE) wr) (fun i _=>5 - (intOf i).toNat)
 case atStart=>exact ⟨0,by omega,rfl,HST0.out⟩
 case round =>
  clear HST0;obtain ⟨k,hk,rfl,hst⟩:=hrel
  by_cases hlt:k<5
  ·have hlt':(k:Int)<5:=by omega
   obtain ⟨l,hl⟩:=eX ((limbs x).getD k 0);obtain ⟨m,hm⟩:=eX ((limbs y).getD k 0);have hll:l<9223372036854775808:=by rw [hl]; exact qaN HX.out (by decide) k
   have hml:m<9223372036854775808:=by rw [hm]; exact qaN HY.out (by decide) k
   have hset:=qbN (rawAdd x y) x k hlt;rw [rawAdd_at _ _ _ hlt,← hl,← hm] at hset;have ex:(mixV (rawAdd x y) x k)[k]?=some (.int .u64 (l:Int)):=by rw [hl]; exact qb3 _ _ _ hlt
   have ey:(eV y)[k]?=some (.int .u64 (m:Int)):=by rw [hm]; exact eV_at _ _ hlt
   have HSET:=zY hset;have EX:=zY ex;have EY:=zY ey;have HLL:=zY hll;have HML:=zY hml;have HC0:=hst.drew;clear hset ex ey hst hl hm hll hml;go_wp2_with fail;refine qaj (fun u=>G3 w g h r (mixV (rawAdd x y) x k) (eV y) (eV zE) u) (fun u=>G3 w g h r (mixV (rawAdd x y) x (k+1)) (eV y) (eV zE) u) [(0,some 9),(1,some 10),(2,some 11),(3,some 12),(4,some 13),(5,some 14),(6,some 15),(7,some 16),(8,some 17),(9,some 18),(10,some 19),(11,none)] (by kernel_rfl) (by kernel_rfl) (by decide) (by kernel_rfl) (fun _=>rfl) HC0 ?_;apply yN_
   ·apply dP [];exact fun _=>rfl;rfl;rintro vals - w1 hC1 E hE;simp only [sP] at hE ⊢;go_wp2;exact .mk (hE _ hC1)
   apply yN_
   ·apply dP [];exact fun _=>rfl;rfl;rintro vals ⟨-,-⟩ w1 hC1 E hE;simp only [sP] at hE ⊢;go_wp2;exact .mk (hE _ hC1)
   apply yN_
   ·apply dP [(1,some 10),(0,some 9)];exact fun _=>rfl;rfl;intro vals vq w1 hC1 E hE;simp only [sP,vq] at hE ⊢;clear vq;go_wp2;exact .mk (hE _ hC1)
   apply yN_
   ·apply dP [(2,some 11)];exact fun _=>rfl;rfl;intro vals vq w1 hC1 E hE;have d0:=hC1.x.cell k;rw [EX.out] at d0;simp only [sP,vq] at hE ⊢;clear vq;go_wp2;exact .mk (hE _ hC1)
   apply yN_
   ·apply dP [];exact fun _=>rfl;rfl;intro vals vq w1 hC1 E hE;clear vq;simp only [sP] at hE ⊢;go_wp2;exact .mk (hE _ hC1)
   apply yN_
   ·apply dP [];exact fun _=>rfl;rfl;intro vals vq w1 hC1 E hE;clear vq;simp only [sP] at hE ⊢;go_wp2;exact .mk (hE _ hC1)
   apply yN_
   ·apply dP [(5,some 14),(4,some 13)];exact fun _=>rfl;rfl;intro vals vq w1 hC1 E hE;simp only [sP,vq] at hE ⊢;clear vq;go_wp2;exact .mk (hE _ hC1)
   apply yN_
   ·apply dP [(6,some 15)];exact fun _=>rfl;rfl;intro vals vq w1 hC1 E hE;have d0:=hC1.y.cell k;rw [EY.out] at d0;simp only [sP,vq] at hE ⊢;clear vq;go_wp2;exact .mk (hE _ hC1)
   apply yN_
   ·apply dP [(3,some 12),(7,some 16)];exact fun _=>rfl;rfl;intro vals vq w1 hC1 E hE;simp only [sP,vq] at hE ⊢;clear vq;go_wp2;rw [add_w64' l m (by have:=HLL.out; have:=HML.out; omega)];exact .mk (hE _ hC1)
   apply yN_
   ·apply dP [];exact fun _=>rfl;rfl;intro vals vq w1 hC1 E hE;clear vq;simp only [sP] at hE ⊢;go_wp2;exact .mk (hE _ hC1)
   apply yN_
   ·apply dP [(9,some 18),(0,some 9),(0,some 9),(1,some 10),(2,some 11),(3,some 12),(4,some 13),(5,some 14),(6,some 15),(7,some 16),(8,some 17)];exact fun _=>rfl;rfl;intro vals vq w1 hC1 E hE;simp only [sP,vq] at hE ⊢;clear vq;go_wp2;exact .mk (hE _ hC1)
   apply yL_ (v:=undef)
   ·apply dP [(10,some 19),(8,some 17),(0,some 9),(1,some 10),(2,some 11),(3,some 12),(4,some 13),(5,some 14),(6,some 15),(7,some 16),(8,some 17)];exact fun _=>rfl;rfl;intro vals vq w1 hC1 E hE;have d0:=hC1.x.cell k;rw [EX.out] at d0;have q0:=hC1.x.free k;simp only [sP,vq] at hE ⊢;clear vq;go_wp2;refine .mk (hE _ (hC1.putX (qaf _ _ _ _) ?_));have h:=qag (i:=k) hC1.x (.int .u64 ((l+m:Nat):Int));rw [HSET.out] at h;exact h
   intro vals vq w1 hC1;simp only [sP,vq];clear vq;clear HC0;have HC1:=zY hC1;clear hC1;go_wp2_with fail;exact ⟨⟨k+1,by omega,by go_num,HC1.out⟩,by simp [intOf]; omega⟩
  ·obtain rfl:k=5:=by omega
   rw [qbO] at hst;have HST:=zY hst;clear hst;go_wp2_with (refine qac (x:=.tmp 2) HST.out.x rfl rfl rfl hu rfl qad ?_);refine qab (qba (rawAdd x y) _ ?_) ?_
   ·obtain ⟨a1,a2,a3,a4,a5⟩:=HX.out;obtain ⟨b1,b2,b3,b4,b5⟩:=HY.out
    constructor <;> simp only [rawAdd] <;> omega
   rintro e w2 ⟨rfl,hb2⟩;have hs2:=HST.out.next hb2;have HS2:=zY hs2;clear HST hs2 hb2;go_wp2_with (refine qae (x:=.tmp 4) (cells:=eV (addE x y)) HS2.out.z rfl rfl rfl rfl qad rfl (by simp [eV,wV,limbs,Value.oneCell']) ?_; intro w5 hb5 hw5);refine bodyPost_ret (qap (P:=Tryd.prog) rfl rfl hb5 hu rfl qad) rfl ⟨rfl,?_⟩;exact hw5.below HS2.out.bel HS2.out.lr HS2.out.bel.size
theorem sub_any (x y:E5) (w:World) (hx:x.Lt 9223372036854775808) (hy:y.Lt 18446744073709551616):Calls Tryd.prog 41 #[.agg (eV x),.agg (eV y)] w (ElemPost (subE x y) w):=by
 have hu:=Tryd.underlying46;have hst0:G3 w w.heap.size (w.heap.size+1) (w.heap.size+1+1) (eV x) (eV y) (eV zE) _:=g3_new w (eV x) (eV y) (eV zE);have hz:(carryE y).Lt 2251799813947392:=qbS hy;have HX:=zY hx;have HY:=zY hy;have HZ:=zY hz;have HST0:=zY hst0;clear hx hy hz hst0;go_enter Tryd.func41,Tryd.ntmps41;go_wp2_with (refine qac (x:=.tmp 3) HST0.out.y rfl rfl rfl hu rfl qad ?_);generalize hr:w.heap.size+1+1=r at *;generalize hh:w.heap.size+1=h at *;generalize hg:w.heap.size=g at *;have HR:=zY hr;have HH:=zY hh;have HG:=zY hg;clear hr hh hg;refine qab (qba y _ HY.out) ?_;rintro e w2 ⟨rfl,hb2⟩;have hs2:=HST0.out.next hb2;have HS2:=zY hs2;clear HST0 hs2 hb2;go_wp2_with (refine qae (x:=.tmp 3) (cells:=eV (carryE y)) HS2.out.y rfl rfl rfl rfl qad rfl (by simp [eV,wV,limbs,Value.oneCell']) ?_; intro w3 hb3 hw3);have hs3:G3 w g h r (mixV (rawSub x (carryE y)) x 0) (eV (carryE y)) (eV zE) w3:=HS2.out.putY hw3 hb3;have HS3:=zY hs3;clear HS2 hs3 hb3 hw3
 go_loopw [9] (fun i wr=>∃ k:Nat,k≤5∧i=.int .i64 k∧G3 w g h r (mixV (rawSub x (carryE y)) x k) (eV (carryE y)) (eV zE) wr) (fun i _=>5 - (intOf i).toNat)
 case atStart=>exact ⟨0,by omega,rfl,HS3.out⟩
 case round =>
  clear HS3;obtain ⟨k,hk,rfl,hst⟩:=hrel
  by_cases hlt:k<5
  ·have hlt':(k:Int)<5:=by omega
   obtain ⟨l,hl⟩:=eX ((limbs x).getD k 0);obtain ⟨m,hm⟩:=eX ((limbs (carryE y)).getD k 0);have hll:l<9223372036854775808:=by rw [hl]; exact qaN HX.out (by decide) k
   have hml:m<2251799813947392:=by rw [hm]; exact qaN HZ.out (by decide) k
   have hset:=qbN (rawSub x (carryE y)) x k hlt;rw [rawSub_at _ _ _ hlt,← hl,← hm] at hset;have ex:(mixV (rawSub x (carryE y)) x k)[k]?=some (.int .u64 (l:Int)):=by rw [hl]; exact qb3 _ _ _ hlt
   have ey:(eV (carryE y))[k]?=some (.int .u64 (m:Int)):=by rw [hm]; exact eV_at _ _ hlt
   have HEX:=zY ex;have HEY:=zY ey;have HLL:=zY hll;have HML:=zY hml
   by_cases h0:k=0
   ·subst h0;rw [if_pos rfl] at hset;have HSET:=zY hset;have HC0:=hst.drew;clear hset ex ey hst hl hm hll hml hlt' hlt;rw [show ((0:Nat):Int)=0 from rfl];go_wp2_with fail;refine qaj (fun u=>G3 w g h r (mixV (rawSub x (carryE y)) x 0) (eV (carryE y)) (eV zE) u) (fun u=>G3 w g h r (mixV (rawSub x (carryE y)) x (0+1)) (eV (carryE y)) (eV zE) u) [(0,some 16),(1,some 17),(2,some 18),(3,some 19),(4,some 20),(5,some 21),(6,some 22),(7,some 23),(8,some 24),(9,some 25),(10,some 26),(11,some 27),(12,some 28),(13,none)] (by kernel_rfl) (by kernel_rfl) (by decide) (by kernel_rfl) (fun _=>rfl) HC0 ?_;apply yN_
    ·apply dP [];exact fun _=>rfl;rfl;rintro vals - w1 hC1 E hE;simp only [sP] at hE ⊢;go_wp2;exact .mk (hE _ hC1)
    apply yN_
    ·apply dP [];exact fun _=>rfl;rfl;rintro vals ⟨-,-⟩ w1 hC1 E hE;simp only [sP] at hE ⊢;go_wp2;exact .mk (hE _ hC1)
    apply yN_
    ·apply dP [(1,some 17),(0,some 16)];exact fun _=>rfl;rfl;intro vals vq w1 hC1 E hE;simp only [sP,vq] at hE ⊢;clear vq;go_wp2;exact .mk (hE _ hC1)
    apply yN_
    ·apply dP [(2,some 18)];exact fun _=>rfl;rfl;intro vals vq w1 hC1 E hE;have d0:=hC1.x.cell 0;rw [HEX.out] at d0;simp only [sP,vq] at hE ⊢;clear vq;go_wp2;exact .mk (hE _ hC1)
    apply yN_
    ·apply dP [];exact fun _=>rfl;rfl;intro vals vq w1 hC1 E hE;clear vq;simp only [sP] at hE ⊢;go_wp2;exact .mk (hE _ hC1)
    apply yN_
    ·apply dP [];exact fun _=>rfl;rfl;intro vals vq w1 hC1 E hE;clear vq;simp only [sP] at hE ⊢;go_wp2;exact .mk (hE _ hC1)
    apply yN_
    ·apply dP [];exact fun _=>rfl;rfl;intro vals vq w1 hC1 E hE;clear vq;simp only [sP] at hE ⊢;go_wp2;exact .mk (hE _ hC1)
    apply yN_
    ·apply dP [(6,some 22),(5,some 21)];exact fun _=>rfl;rfl;intro vals vq w1 hC1 E hE;simp only [sP,vq] at hE ⊢;clear vq;go_wp2;exact .mk (hE _ hC1)
    apply yN_
    ·apply dP [(7,some 23)];exact fun _=>rfl;rfl;intro vals vq w1 hC1 E hE;have d0:=hC1.y.cell 0;rw [HEY.out] at d0;simp only [sP,vq] at hE ⊢;clear vq;go_wp2;exact .mk (hE _ hC1)
    apply yN_
    ·apply dP [(4,some 20),(8,some 24)];exact fun _=>rfl;rfl;intro vals vq w1 hC1 E hE;simp only [sP,vq] at hE ⊢;clear vq;go_wp2;rw [show IntKind.u64.wrap (4503599627370458 - (m:Int))=((4503599627370458 - m:Nat):Int) by have:=HML.out; rw [IntKind.wrap_u64]; omega];exact .mk (hE _ hC1)
    apply yN_
    ·apply dP [(3,some 19),(9,some 25)];exact fun _=>rfl;rfl;intro vals vq w1 hC1 E hE;simp only [sP,vq] at hE ⊢;clear vq;go_wp2;rw [add_w64' l (4503599627370458 - m) (by have:=HLL.out; have:=HML.out; omega)];exact .mk (hE _ hC1)
    apply yN_
    ·apply dP [];exact fun _=>rfl;rfl;intro vals vq w1 hC1 E hE;clear vq;simp only [sP] at hE ⊢;go_wp2;exact .mk (hE _ hC1)
    apply yN_
    ·apply dP [(11,some 27),(0,some 16),(0,some 16),(1,some 17),(2,some 18),(3,some 19),(4,some 20),(5,some 21),(6,some 22),(7,some 23),(8,some 24),(9,some 25),(10,some 26)];exact fun _=>rfl;rfl;intro vals vq w1 hC1 E hE;simp only [sP,vq] at hE ⊢;clear vq;go_wp2;exact .mk (hE _ hC1)
    apply yL_ (v:=undef)
    ·apply dP [(12,some 28),(10,some 26),(0,some 16),(1,some 17),(2,some 18),(3,some 19),(4,some 20),(5,some 21),(6,some 22),(7,some 23),(8,some 24),(9,some 25),(10,some 26)];exact fun _=>rfl;rfl;intro vals vq w1 hC1 E hE;have d0:=hC1.x.cell 0;rw [HEX.out] at d0;have q0:=hC1.x.free 0;simp only [sP,vq] at hE ⊢;clear vq;go_wp2;refine .mk (hE _ (hC1.putX (qaf _ _ _ _) ?_));have h:=qag (i:=0) hC1.x (.int .u64 ((l+(4503599627370458 - m):Nat):Int));rw [HSET.out] at h;exact h
    intro vals vq w1 hC1;simp only [sP,vq];clear vq;clear HC0;have HC1:=zY hC1;clear hC1;go_wp2_with fail;exact ⟨⟨1,by omega,by go_num,HC1.out⟩,by simp [intOf]⟩
   ·rw [if_neg h0] at hset;have HSET:=zY hset;have HC0:=hst.drew;have hb:((k:Int) == 0)=false:=by rw [beq_eq_false_iff_ne]; omega
    clear hset ex ey hst hl hm hll hml;go_wp2_with fail;refine qaj (fun u=>G3 w g h r (mixV (rawSub x (carryE y)) x k) (eV (carryE y)) (eV zE) u) (fun u=>G3 w g h r (mixV (rawSub x (carryE y)) x (k+1)) (eV (carryE y)) (eV zE) u) [(0,some 16),(1,some 17),(2,some 18),(3,some 19),(4,some 20),(5,some 21),(6,some 22),(7,some 23),(8,some 24),(9,some 25),(10,some 26),(11,some 27),(12,some 28),(13,none)] (by kernel_rfl) (by kernel_rfl) (by decide) (by kernel_rfl) (fun _=>rfl) HC0 ?_;apply yN_
    ·apply dP [];exact fun _=>rfl;rfl;rintro vals - w1 hC1 E hE;simp only [sP] at hE ⊢;go_wp2;exact .mk (hE _ hC1)
    apply yN_
    ·apply dP [];exact fun _=>rfl;rfl;rintro vals ⟨-,-⟩ w1 hC1 E hE;simp only [sP] at hE ⊢;go_wp2;exact .mk (hE _ hC1)
    apply yN_
    ·apply dP [(1,some 17),(0,some 16)];exact fun _=>rfl;rfl;intro vals vq w1 hC1 E hE;simp only [sP,vq] at hE ⊢;clear vq;go_wp2;exact .mk (hE _ hC1)
    apply yN_
    ·apply dP [(2,some 18)];exact fun _=>rfl;rfl;intro vals vq w1 hC1 E hE;have d0:=hC1.x.cell k;rw [HEX.out] at d0;simp only [sP,vq] at hE ⊢;clear vq;go_wp2;exact .mk (hE _ hC1)
    apply yN_
    ·apply dP [];exact fun _=>rfl;rfl;intro vals vq w1 hC1 E hE;clear vq;simp only [sP] at hE ⊢;go_wp2;exact .mk (hE _ hC1)
    apply yN_
    ·apply dP [];exact fun _=>rfl;rfl;intro vals vq w1 hC1 E hE;clear vq;simp only [sP] at hE ⊢;go_wp2;exact .mk (hE _ hC1)
    apply yN_
    ·apply dP [];exact fun _=>rfl;rfl;intro vals vq w1 hC1 E hE;clear vq;simp only [sP] at hE ⊢;go_wp2;exact .mk (hE _ hC1)
    apply yN_
    ·apply dP [(6,some 22),(5,some 21)];exact fun _=>rfl;rfl;intro vals vq w1 hC1 E hE;simp only [sP,vq] at hE ⊢;clear vq;go_wp2;exact .mk (hE _ hC1)
    apply yN_
    ·apply dP [(7,some 23)];exact fun _=>rfl;rfl;intro vals vq w1 hC1 E hE;have d0:=hC1.y.cell k;rw [HEY.out] at d0;simp only [sP,vq] at hE ⊢;clear vq;go_wp2;exact .mk (hE _ hC1)
    apply yN_
    ·apply dP [(4,some 20),(8,some 24)];exact fun _=>rfl;rfl;intro vals vq w1 hC1 E hE;simp only [sP,vq] at hE ⊢;clear vq;go_wp2;rw [show IntKind.u64.wrap (4503599627370494 - (m:Int))=((4503599627370494 - m:Nat):Int) by have:=HML.out; rw [IntKind.wrap_u64]; omega];exact .mk (hE _ hC1)
    apply yN_
    ·apply dP [(3,some 19),(9,some 25)];exact fun _=>rfl;rfl;intro vals vq w1 hC1 E hE;simp only [sP,vq] at hE ⊢;clear vq;go_wp2;rw [add_w64' l (4503599627370494 - m) (by have:=HLL.out; have:=HML.out; omega)];exact .mk (hE _ hC1)
    apply yN_
    ·apply dP [];exact fun _=>rfl;rfl;intro vals vq w1 hC1 E hE;clear vq;simp only [sP] at hE ⊢;go_wp2;exact .mk (hE _ hC1)
    apply yN_
    ·apply dP [(11,some 27),(0,some 16),(0,some 16),(1,some 17),(2,some 18),(3,some 19),(4,some 20),(5,some 21),(6,some 22),(7,some 23),(8,some 24),(9,some 25),(10,some 26)];exact fun _=>rfl;rfl;intro vals vq w1 hC1 E hE;simp only [sP,vq] at hE ⊢;clear vq;go_wp2;exact .mk (hE _ hC1)
    apply yL_ (v:=undef)
    ·apply dP [(12,some 28),(10,some 26),(0,some 16),(1,some 17),(2,some 18),(3,some 19),(4,some 20),(5,some 21),(6,some 22),(7,some 23),(8,some 24),(9,some 25),(10,some 26)];exact fun _=>rfl;rfl;intro vals vq w1 hC1 E hE;have d0:=hC1.x.cell k;rw [HEX.out] at d0;have q0:=hC1.x.free k;simp only [sP,vq] at hE ⊢;clear vq;go_wp2;refine .mk (hE _ (hC1.putX (qaf _ _ _ _) ?_));have h:=qag (i:=k) hC1.x (.int .u64 ((l+(4503599627370494 - m):Nat):Int));rw [HSET.out] at h;exact h
    intro vals vq w1 hC1;simp only [sP,vq];clear vq;clear HC0;have HC1:=zY hC1;clear hC1;go_wp2_with fail;exact ⟨⟨k+1,by omega,by go_num,HC1.out⟩,by simp [intOf]; omega⟩
  ·obtain rfl:k=5:=by omega
   rw [qbO] at hst;have HST:=zY hst;clear hst;go_wp2_with (refine qac (x:=.tmp 2) HST.out.x rfl rfl rfl hu rfl qad ?_);refine qab (qba (rawSub x (carryE y)) _ ?_) ?_
   ·obtain ⟨a1,a2,a3,a4,a5⟩:=HX.out
    constructor <;> simp only [rawSub] <;> omega
   rintro e w2 ⟨rfl,hb2⟩;have hs2:=HST.out.next hb2;have HS2:=zY hs2;clear HST hs2 hb2;go_wp2_with (refine qae (x:=.tmp 4) (cells:=eV (subE x y)) HS2.out.z rfl rfl rfl rfl qad rfl (by simp [eV,wV,limbs,Value.oneCell']) ?_; intro w5 hb5 hw5);refine bodyPost_ret (qap (P:=Tryd.prog) rfl rfl hb5 hu rfl qad) rfl ⟨rfl,?_⟩;exact hw5.below HS2.out.bel HS2.out.lr HS2.out.bel.size
def ovr (x:E5):Nat→Nat
 | 0=>((limbs x).getD 0 0+19)/2251799813685248
 | k+1=>((limbs x).getD (k+1) 0+ovr x k)/2251799813685248
theorem ovr_le {x:E5} (h:x.Lt 4503599627370496):∀ k,ovr x k≤2
 | 0=>by have:=qaN h (by decide) 0; simp only [ovr]; omega
 | k+1=>by have:=qaN h (by decide) (k+1); have:=ovr_le h k; simp only [ovr]; omega
def cyE (x:E5) (q:Nat):Nat→Nat
 | 0=>(limbs x).getD 0 0+19*q
 | k+1=>(limbs x).getD (k+1) 0+cyE x q k/2251799813685248
theorem cyE_le {x:E5} (h:x.Lt 4503599627370496) {q:Nat} (hq:q≤2):∀ k,cyE x q k<4503599627370600
 | 0=>by have:=qaN h (by decide) 0; simp only [cyE]; omega
 | k+1=>by have:=qaN h (by decide) (k+1); have:=cyE_le h hq k; simp only [cyE]; omega
def lstV (x:E5) (q k:Nat):Array Value:=wV ((List.range k).map (fun j=>cyE x q j%2251799813685248)++cyE x q k :: (limbs x).drop (k+1))
def midV (x:E5) (q k:Nat):Array Value:=wV ((List.range k).map (fun j=>cyE x q j%2251799813685248)++cyE x q k :: cyE x q (k+1) :: (limbs x).drop (k+2))
theorem lstV_zero (x:E5) (q:Nat):(eV x).setIfInBounds 0 (.int .u64 (((limbs x).getD 0 0+19*q:Nat):Int))=lstV x q 0:=rfl
theorem lstV_at (x:E5) (q k:Nat) (h:k<5):(lstV x q k)[k]?=some (.int .u64 ((cyE x q k:Nat):Int)):=by
 match k,h with
 | 0,_=>rfl
 | 1,_=>rfl
 | 2,_=>rfl
 | 3,_=>rfl
 | 4,_=>rfl
theorem lstV_at1 (x:E5) (q k:Nat) (h:k<4):(lstV x q k)[k+1]?=some (.int .u64 (((limbs x).getD (k+1) 0:Nat):Int)):=by
 match k,h with
 | 0,_=>rfl
 | 1,_=>rfl
 | 2,_=>rfl
 | 3,_=>rfl
theorem lstV_set (x:E5) (q k:Nat) (h:k<4):(lstV x q k).setIfInBounds (k+1) (.int .u64 ((cyE x q (k+1):Nat):Int))=midV x q k:=by
 match k,h with
 | 0,_=>rfl
 | 1,_=>rfl
 | 2,_=>rfl
 | 3,_=>rfl
theorem midV_at (x:E5) (q k:Nat) (h:k<4):(midV x q k)[k]?=some (.int .u64 ((cyE x q k:Nat):Int)):=by
 match k,h with
 | 0,_=>rfl
 | 1,_=>rfl
 | 2,_=>rfl
 | 3,_=>rfl
theorem midV_set (x:E5) (q k:Nat) (h:k<4):(midV x q k).setIfInBounds k (.int .u64 ((cyE x q k%2251799813685248:Nat):Int))=lstV x q (k+1):=by
 match k,h with
 | 0,_=>rfl
 | 1,_=>rfl
 | 2,_=>rfl
 | 3,_=>rfl
theorem lstV_end (x:E5) (q:Nat):(lstV x q 4).setIfInBounds 4 (.int .u64 ((cyE x q 4%2251799813685248:Nat):Int))=eV (leastQ x q):=rfl
structure G2 (w0:World) (g r:Nat) (x z:Array Value) (u:World):Prop where
 bel:Below w0.heap.size w0 u
 x:Blk u g 46 x
 z:Blk u r 46 z
 lg:w0.heap.size≤g
 lr:w0.heap.size≤r
 gr:g≠r
theorem G2.putX {w0 u u':World} {g r:Nat} {x z x':Array Value} (k:G2 w0 g r x z u) (hw:Wrote g u u') (hb:Blk u' g 46 x'):G2 w0 g r x' z u' :=
 ⟨hw.below k.bel k.lg k.bel.size,hb,hw.blk k.z (Ne.symm k.gr),k.lg,k.lr,k.gr⟩
theorem G2.drew {w0 u:World} {g r:Nat} {x z:Array Value} (k:G2 w0 g r x z u):G2 w0 g r x z u.drew :=
 ⟨k.bel.drew,k.x,k.z,k.lg,k.lr,k.gr⟩
theorem G2.next {w0 u u':World} {g r:Nat} {x z:Array Value} (k:G2 w0 g r x z u) (hb:Below u.heap.size u u'):G2 w0 g r x z u' :=
 ⟨k.bel.trans (hb.mono k.bel.size),k.x.below hb k.x.lt,k.z.below hb k.z.lt,k.lg,k.lr,k.gr⟩
theorem g2_new (w:World) (x z:Array Value):G2 w w.heap.size (w.heap.size+1) x z ((w.alloc (.cells x 46)).alloc (.cells z 46)) :=
 ⟨(below_new _ _).alloc (by simp) _,(Blk.new _ _ _).alloc _,Blk.newAt (by simp),Nat.le_refl _,by omega,by omega⟩
theorem qb9 (x:E5) (w:World) (hx:x.Lt 18446744073709551616):Calls Tryd.prog 65 #[.agg (eV x)] w (ElemPost (leastE x) w):=by
 have hu:=Tryd.underlying46;have hst0:G2 w w.heap.size (w.heap.size+1) (eV x) (eV zE) _:=g2_new w (eV x) (eV zE);have hx1:(carryE x).Lt 18446744073709551616:=(qbS hx).mono (by decide);obtain ⟨y,hy⟩:=eX (carryE (carryE x));have hyl:y.Lt 4503599627370496:=by rw [hy]; exact (qbS hx1).mono (by decide)
 have hfin:leastE x=leastQ y (ovr y 4):=by rw [hy]; rfl
 have HX:=zY hx;have HX1:=zY hx1;have HYL:=zY hyl;have HST0:=zY hst0;have HFIN:=zY hfin;have HY:=zY hy;clear hx hx1 hyl hst0 hfin hy;go_enter Tryd.func65,Tryd.ntmps65;go_wp2_with (refine qac (x:=.tmp 1) HST0.out.x rfl rfl rfl hu rfl qad ?_);generalize hr:w.heap.size+1=r at *;generalize hg:w.heap.size=g at *;have HR:=zY hr;have HG:=zY hg;clear hr hg;refine qab (qba x _ HX.out) ?_;rintro e w2 ⟨rfl,hb2⟩;have hs2:=HST0.out.next hb2;have HS2:=zY hs2;clear HST0 hs2 hb2;go_wp2_with fail;refine qab (qba (carryE x) _ HX1.out) ?_;rintro e w3 ⟨rfl,hb3⟩;rw [← HY.out];have hs3:=HS2.out.next hb3;have HS3:=zY hs3;clear HS2 hs3 hb3;have hl0:=qaN HYL.out (by decide) 0;obtain ⟨l0,hl⟩:=eX ((limbs y).getD 0 0);rw [← hl] at hl0;have hq0:ovr y 0=(l0+19)/2251799813685248:=by rw [hl]; rfl
 have hll0:(l0:Int)<4503599627370496:=by omega
 have ex0:(eV y)[0]?=some (.int .u64 (l0:Int)):=by rw [hl]; exact eV_at _ _ (by decide)
 have HL:=zY hl;have HQ0:=zY hq0;have EX0:=zY ex0;clear hl0 hl hq0 ex0;go_wp2_with (refine qae (x:=.tmp 1) (cells:=eV y) HS3.out.x rfl rfl rfl rfl qad rfl (by simp [eV,wV,limbs,Value.oneCell']) ?_; intro w4 hb4 hw4; have d0:=hb4.cell 0; rw [EX0.out] at d0; have HB4:=zY hb4; have HW4:=zY hw4; clear hb4 hw4);have hs4:G2 w g r (eV y) (eV zE) w4:=HS3.out.putX HW4.out HB4.out;have HS4:=zY hs4;clear HS3 hs4 HB4 HW4 EX0
 go_loopw [18,3] (fun i q wr=>∃ k:Nat,k≤4∧i=.int .i64 k∧q=.int .u64 (ovr y k:Nat)∧G2 w g r (eV y) (eV zE) wr) (fun i _ _=>4 - (intOf i).toNat)
 case atStart=>exact ⟨0,by omega,rfl,by rw [HQ0.out]; go_num,HS4.out⟩
 case round =>
  clear HS4;obtain ⟨k,hk,rfl,rfl,hst⟩:=hrel
  by_cases hlt:k<4
  ·have hlt':(k:Int)<4:=by omega
   obtain ⟨l,hl⟩:=eX ((limbs y).getD (k+1) 0);have hll:l<4503599627370496:=by rw [hl]; exact qaN HYL.out (by decide) (k+1)
   obtain ⟨q,hq⟩:=eX (ovr y k);have hql:q≤2:=by rw [hq]; exact ovr_le HYL.out k
   have hqn:ovr y (k+1)=(l+q)/2251799813685248:=by rw [hq,hl]; rfl
   have d0:=hst.x.cell (1+k);rw [Nat.add_comm 1 k,eV_at _ _ (by omega),← hl,Nat.add_comm k 1] at d0;rw [← hq];have hli:(l:Int)<4503599627370496:=by omega
   have hqi:(q:Int)≤2:=by omega
   have HQN:=zY hqn;have HST:=zY hst;clear hqn hq hl hst;go_wp2_with fail;exact ⟨⟨k+1,by omega,by go_num,by rw [HQN.out]; go_num,HST.out⟩,by simp [intOf]; omega⟩
  ·obtain rfl:k=4:=by omega
   obtain ⟨q,hq⟩:=eX (ovr y 4);have hql:q≤2:=by rw [hq]; exact ovr_le HYL.out 4
   rw [← hq];have hfin:=HFIN.out;rw [← hq] at hfin;have d0:=hst.x.cell 0;rw [eV_at _ _ (by decide),← HL.out] at d0;have f0:=hst.x.free 0;have hqi:(q:Int)≤2:=by omega
   have hset:=lstV_zero y q;rw [← HL.out] at hset;have hz:(l0:Int)+19*(q:Int)=((l0+19*q:Nat):Int):=by omega
   have HZ:=zY hz;have HSET:=zY hset;have HST:=zY hst;have HF:=zY hfin;clear hset hst hq hfin HFIN hz;go_wp2_with fail;obtain ⟨wo,hwo⟩:∃ x,x=wr.setCell ⟨g,0,none⟩ (.int .u64 ((l0:Int)+19*(q:Int))):=⟨_,rfl⟩;rw [← hwo]
   have hs5:G2 w g r (lstV y q 0) (eV zE) wo:=by
    rw [hwo];refine HST.out.putX (qaf _ _ _ _) ?_;rw [HZ.out];have h:=qag (i:=0) HST.out.x (.int .u64 ((l0+19*q:Nat):Int));rw [HSET.out] at h;exact h
   have HS5:=zY hs5;have HQL:=zY hql;clear HST HSET HZ hwo hs5 hql d0 f0 hqi hll0 HQ0 HL
   go_loopw [35] (fun i wr=>∃ k:Nat,k≤4∧i=.int .i64 k∧G2 w g r (lstV y q k) (eV zE) wr) (fun i _=>4 - (intOf i).toNat)
   case atStart=>exact ⟨0,by omega,rfl,HS5.out⟩
   case round =>
    clear HS5;obtain ⟨k,hk,rfl,hst⟩:=hrel
    by_cases hlt2:k<4
    ·have hlt3:(k:Int)<4:=by omega
     obtain ⟨c0,hc0⟩:=eX (cyE y q k);obtain ⟨c1,hc1⟩:=eX (cyE y q (k+1));obtain ⟨l,hl⟩:=eX ((limbs y).getD (k+1) 0);have hcl:c0<4503599627370600:=by rw [hc0]; exact cyE_le HYL.out HQL.out k
     have hc10:c1=l+c0/2251799813685248:=by rw [hc1,hl,hc0]; rfl
     have hll:l<4503599627370496:=by rw [hl]; exact qaN HYL.out (by decide) (k+1)
     have ea:=lstV_at y q k (by omega);have eb:=lstV_at1 y q k hlt2;have ec:=lstV_set y q k hlt2;have ed:=midV_at y q k hlt2;have ee:=midV_set y q k hlt2;rw [← hc0] at ea;rw [← hl] at eb;rw [← hc1] at ec;rw [← hc0] at ed ee;have EA:=zY ea;have EB:=zY eb;have EC:=zY ec;have ED:=zY ed;have EE:=zY ee;have HCL:=zY hcl;have HLL:=zY hll;have HC10:=zY hc10;have HC0:=hst.drew;have hk5:(k:Int)+1<5:=by omega
     have hk6:(k:Int)<5:=by omega
     clear ea eb ec ed ee hcl hll hc10 hc0 hc1 hl hst;go_wp2_with fail;refine qaj (fun u=>G2 w g r (lstV y q k) (eV zE) u) (fun u=>G2 w g r (midV y q k) (eV zE) u) [(0,some 38),(1,some 39),(2,some 40),(3,some 41),(4,some 42),(5,some 43),(6,some 44),(7,some 45),(8,some 46),(9,some 47),(10,some 48),(11,some 49),(12,some 50),(13,none)] (by kernel_rfl) (by kernel_rfl) (by decide) (by kernel_rfl) (fun _=>rfl) HC0 ?_;apply yN_
     ·apply dP [];exact fun _=>rfl;rfl;rintro vals - w1 hC1 E hE;simp only [sP] at hE ⊢;go_wp2;exact .mk (hE _ hC1)
     apply yN_
     ·apply dP [(0,some 38)];exact fun _=>rfl;rfl;intro vals vq w1 hC1 E hE;simp only [sP,vq] at hE ⊢;clear vq;go_wp2;exact .mk (hE _ hC1)
     apply yN_
     ·apply dP [];exact fun _=>rfl;rfl;intro vals vq w1 hC1 E hE;clear vq;simp only [sP] at hE ⊢;go_wp2;exact .mk (hE _ hC1)
     apply yN_
     ·apply dP [(2,some 40),(1,some 39)];exact fun _=>rfl;rfl;intro vals vq w1 hC1 E hE;simp only [sP,vq] at hE ⊢;clear vq;go_wp2;exact .mk (hE _ hC1)
     apply yN_
     ·apply dP [(3,some 41)];exact fun _=>rfl;rfl;intro vals vq w1 hC1 E hE;have d0:=hC1.x.cell (k+1);rw [EB.out] at d0;simp only [sP,vq] at hE ⊢;clear vq;go_wp2;exact .mk (hE _ hC1)
     apply yN_
     ·apply dP [];exact fun _=>rfl;rfl;intro vals vq w1 hC1 E hE;clear vq;simp only [sP] at hE ⊢;go_wp2;exact .mk (hE _ hC1)
     apply yN_
     ·apply dP [];exact fun _=>rfl;rfl;intro vals vq w1 hC1 E hE;clear vq;simp only [sP] at hE ⊢;go_wp2;exact .mk (hE _ hC1)
     apply yN_
     ·apply dP [(6,some 44),(5,some 43)];exact fun _=>rfl;rfl;intro vals vq w1 hC1 E hE;simp only [sP,vq] at hE ⊢;clear vq;go_wp2;exact .mk (hE _ hC1)
     apply yN_
     ·apply dP [(7,some 45)];exact fun _=>rfl;rfl;intro vals vq w1 hC1 E hE;have d0:=hC1.x.cell k;rw [EA.out] at d0;simp only [sP,vq] at hE ⊢;clear vq;go_wp2;exact .mk (hE _ hC1)
     apply yN_
     ·apply dP [(8,some 46)];exact fun _=>rfl;rfl;intro vals vq w1 hC1 E hE;simp only [sP,vq] at hE ⊢;clear vq;go_wp2;exact .mk (hE _ hC1)
     apply yN_
     ·apply dP [(4,some 42),(9,some 47)];exact fun _=>rfl;rfl;intro vals vq w1 hC1 E hE;simp only [sP,vq] at hE ⊢;clear vq;go_wp2;rw [show IntKind.u64.wrap ((l:Int)+(c0:Int)/2251799813685248)=(c1:Int) by have:=HCL.out; have:=HLL.out; have:=HC10.out; rw [IntKind.wrap_u64]; omega];exact .mk (hE _ hC1)
     apply yN_
     ·apply dP [];exact fun _=>rfl;rfl;intro vals vq w1 hC1 E hE;clear vq;simp only [sP] at hE ⊢;go_wp2;exact .mk (hE _ hC1)
     apply yN_
     ·apply dP [(11,some 49),(1,some 39),(0,some 38),(1,some 39),(2,some 40),(3,some 41),(4,some 42),(5,some 43),(6,some 44),(7,some 45),(8,some 46),(9,some 47),(10,some 48)];exact fun _=>rfl;rfl;intro vals vq w1 hC1 E hE;simp only [sP,vq] at hE ⊢;clear vq;go_wp2;exact .mk (hE _ hC1)
     apply yL_ (v:=undef)
     ·apply dP [(12,some 50),(10,some 48),(0,some 38),(1,some 39),(2,some 40),(3,some 41),(4,some 42),(5,some 43),(6,some 44),(7,some 45),(8,some 46),(9,some 47),(10,some 48)];exact fun _=>rfl;rfl;intro vals vq w1 hC1 E hE;have d0:=hC1.x.cell (k+1);rw [EB.out] at d0;have q0:=hC1.x.free (k+1);simp only [sP,vq] at hE ⊢;clear vq;go_wp2;refine .mk (hE _ (hC1.putX (qaf _ _ _ _) ?_));have h:=qag (i:=k+1) hC1.x (.int .u64 (c1:Int));rw [EC.out] at h;exact h
     intro vals vq w1 hC1;simp only [sP,vq];clear vq;clear HC0;have d0:=hC1.x.cell k;rw [ED.out] at d0;have q0:=hC1.x.free k;have HC1:=zY hC1;clear hC1;go_wp2_with fail;refine ⟨⟨k+1,by omega,by go_num,HC1.out.putX (qaf _ _ _ _) ?_⟩,by simp [intOf]; omega⟩;rw [qcY c0 (by have:=HCL.out; omega)];have h:=qag (i:=k) HC1.out.x (.int .u64 ((c0%2251799813685248:Nat):Int));rw [EE.out] at h;exact h
    ·obtain rfl:k=4:=by omega
     obtain ⟨c0,hc0⟩:=eX (cyE y q 4);have hcl:c0<4503599627370600:=by rw [hc0]; exact cyE_le HYL.out HQL.out 4
     have ea:=lstV_at y q 4 (by omega);have ee:=lstV_end y q;rw [← hc0] at ea ee;rw [← HF.out] at ee;have d0:=hst.x.cell 4;rw [ea] at d0;have q0:=hst.x.free 4;have hm:=qcY c0 (by omega);have hpt:∀ u:World,G2 w g r (eV (leastE x)) (eV zE) u→True:=fun _ _=>trivial
     have hs6:G2 w g r (eV (leastE x)) (eV zE) (wr.setCell ⟨g,4,none⟩ (.int .u64 (bits .and .u64 (c0:Int) 2251799813685247))):=by
      refine hst.putX (qaf _ _ _ _) ?_;rw [hm];have h:=qag (i:=4) hst.x (.int .u64 ((c0%2251799813685248:Nat):Int));rw [ee] at h;exact h
     have HS6:=zY hs6;clear hs6 hst hc0 hcl ea ee hm hpt
     go_wp2_with (first
      | (refine qac (x:=.tmp 1) HS6.out.x rfl rfl rfl hu rfl qad ?_)
      | (refine qae (x:=.tmp 2) (cells:=eV (leastE x)) HS6.out.z rfl rfl rfl rfl qad rfl (by simp [eV,wV,limbs,Value.oneCell']) ?_; intro w5 hb5 hw5))
     refine bodyPost_ret (qap (P:=Tryd.prog) rfl rfl hb5 hu rfl qad) rfl ⟨rfl,?_⟩;exact hw5.below HS6.out.bel HS6.out.lr HS6.out.bel.size
theorem mul64_any (x y:Nat) (hx:x<18446744073709551616) (hy:y<18446744073709551616) (w:World) :
  Calls Tryd.prog 71 #[.int .u64 x,.int .u64 y] w fun e w'=>e=.returned (.tuple #[.int .u64 ((x*y/18446744073709551616:Nat):Int),.int .u64 ((x*y%18446744073709551616:Nat):Int)])∧w'=w:=by
 obtain ⟨bd,bt,bw,hhi⟩:=Lib.mul64_hi x y hx hy;have ba:=Lib.half_mul_le (a:=x/4294967296) (b:=y/4294967296) (by omega) (by omega);have bb:=Lib.half_mul_le (a:=x/4294967296) (b:=y%4294967296) (by omega) (by omega);have bc:=Lib.half_mul_le (a:=x%4294967296) (b:=y/4294967296) (by omega) (by omega);have ba':x/4294967296*(y/4294967296)<18446744073709551616:=by omega
 have bb':x/4294967296*(y%4294967296)<18446744073709551616:=by omega
 have bc':x%4294967296*(y/4294967296)<18446744073709551616:=by omega
 have bh1:x/4294967296*(y/4294967296)+(x/4294967296*(y%4294967296)+x%4294967296*(y%4294967296)/4294967296)/4294967296<18446744073709551616:=by omega
 have bh:x/4294967296*(y/4294967296)+(x/4294967296*(y%4294967296)+x%4294967296*(y%4294967296)/4294967296)/4294967296+((x/4294967296*(y%4294967296)+x%4294967296*(y%4294967296)/4294967296)%4294967296+x%4294967296*(y/4294967296))/4294967296<18446744073709551616:=by omega
 go_enter Tryd.func71,Tryd.ntmps71;go_wp2;simp only [Mul64.maskN x hx,Mul64.maskN y hy,Mul64.divN,Mul64.mulN,Mul64.addN,Mul64.wrapN _ bd,Mul64.wrapN _ bb',Mul64.wrapN _ bt,Mul64.maskN _ bt,Mul64.wrapN _ bc',Mul64.wrapN _ bw,Mul64.wrapN _ ba',Mul64.wrapN _ bh1,Mul64.wrapN _ bh,Mul64.wrapM (x*y)];rw [hhi];go_ret2;exact ⟨rfl,rfl⟩
theorem add64_run (x y c:Nat) (hx:x<18446744073709551616) (hy:y<18446744073709551616) (hc:c≤1) (w:World) :
  (callFunc 72 #[.int .u64 x,.int .u64 y,.int .u64 c]).run Tryd.prog w =
   .ok (.value (.tuple #[.int .u64 (((x+y+c)%18446744073709551616:Nat):Int),.int .u64 (((x+y+c)/18446744073709551616:Nat):Int)])) w:=by
 rw [run_callFunc_extern Tryd.func72 (by kernel_rfl) (by kernel_rfl) (by kernel_rfl) (e:=add64Entry) (by kernel_rfl),run_add64 x y c (by omega) (by omega) (by omega) (by omega)];simp only [Result.andThen]
 congr 5 <;> omega
def wdV (n:Nat):Array Value:=#[.int .u64 ((n/18446744073709551616:Nat):Int),.int .u64 ((n%18446744073709551616:Nat):Int)]
theorem qbj:(Tryd.prog.info? 87).map (·.size)=some 2:=by kernel_rfl
def WidePost (n:Nat) (w:World) (e:Ending) (w':World):Prop:=e=.returned (.agg (wdV n))∧Below w.heap.size w w'
theorem over_any (n:Nat) (hn:n<41538374868278621028243970633760768) (w:World):Calls Tryd.prog 60 #[.agg (wdV n)] w (fun e w'=>e=.returned (.int .u64 ((n/2251799813685248:Nat):Int))∧Below w.heap.size w w'):=by
 have hh:n/18446744073709551616<2251799813685248:=by omega
 have hl:n%18446744073709551616<18446744073709551616:=by omega
 have hs:n/2251799813685248=n/18446744073709551616*8192+n%18446744073709551616/2251799813685248:=by omega
 rw [hs];obtain ⟨hi,hhi⟩:=eX (n/18446744073709551616);obtain ⟨lo,hlo⟩:=eX (n%18446744073709551616);rw [wdV,← hhi,← hlo];rw [← hhi] at hh;rw [← hlo] at hl;clear hs hhi hlo hn
 have hor:bits .or .u64 ((hi:Int)*8192) ((lo:Int)/2251799813685248)=((hi*8192+lo/2251799813685248:Nat):Int):=by
  have h1:=or64 (a:=hi*8192) (b:=lo/2251799813685248) (by omega) (by omega)
  have h2:hi*8192 ||| lo/2251799813685248=hi*8192+lo/2251799813685248:=by
   have:=Nat.shiftLeft_add_eq_or_of_lt (i:=13) (b:=lo/2251799813685248) (by omega) hi;rw [Nat.shiftLeft_eq] at this;exact this.symm
  rw [h2] at h1;rw [← h1]
  congr 1 <;> omega
 have hw:IntKind.u64.wrap ((hi:Int)*8192)=(hi:Int)*8192:=by rw [IntKind.wrap_u64]; omega
 have HOR:=zY hor;have HW:=zY hw;clear hor hh hl hw;go_enter Tryd.func60,Tryd.ntmps60;go_wp2_with fail;go_ret;refine ⟨?_,below_new _ _⟩;rw [HW.out,HOR.out];rfl
theorem plus_any (n a b:Nat) (ha:a<18446744073709551616) (hb:b<18446744073709551616) (hn:n+a*b<340282366920938463463374607431768211456) (w:World):Calls Tryd.prog 59 #[.agg (wdV n),.int .u64 a,.int .u64 b] w (WidePost (n+a*b) w):=by
 obtain ⟨p,hp⟩:=eX (a*b);rw [← hp] at hn ⊢;obtain ⟨hi,hhi⟩:=eX (n/18446744073709551616);obtain ⟨lo,hlo⟩:=eX (n%18446744073709551616);obtain ⟨ph,hph⟩:=eX (p/18446744073709551616);obtain ⟨pl,hpl⟩:=eX (p%18446744073709551616);obtain ⟨c,hc⟩:=eX ((lo+pl+0)/18446744073709551616);have e1:(lo+pl+0)%18446744073709551616=(n+p)%18446744073709551616:=by omega
 have e2:(hi+ph+c)%18446744073709551616=(n+p)/18446744073709551616:=by omega
 have hr1:=add64_run lo pl 0 (by omega) (by omega) (by omega);have hr2:=add64_run hi ph c (by omega) (by omega) (by omega);rw [e1,← hc] at hr1;rw [e2] at hr2;rw [show ((0:Nat):Int)=0 from rfl] at hr1;have hm:=mul64_any a b ha hb;rw [← hp,← hph,← hpl] at hm;have HM:=zY hm;rw [wdV,← hhi,← hlo];obtain ⟨cc,hcc⟩:=eX ((hi+ph+c)/18446744073709551616);rw [← hcc] at hr2;have hz:=qbj;have hu:=Tryd.underlying87;clear hm ha hb hn hp hhi hlo hph hpl hc e1 e2 hcc;obtain ⟨s1,hs1⟩:=eX ((n+p)/18446744073709551616);obtain ⟨s2,hs2⟩:=eX ((n+p)%18446744073709551616);rw [← hs2] at hr1;rw [← hs1] at hr2;have hv:wdV (n+p)=#[.int .u64 (s1:Int),.int .u64 (s2:Int)]:=by rw [hs1,hs2]; rfl
 have HV:=zY hv;clear hv hs1 hs2;go_enter Tryd.func59,Tryd.ntmps59;go_wp2_with fail;refine qab (HM.out _) ?_;rintro e w2 ⟨rfl,rfl⟩;go_wp2_with fail;have hb5:Blk ((w.alloc (.cells #[.int .u64 (hi:Int),.int .u64 (lo:Int)] 87)).alloc (.cells #[.int .u64 (s1:Int),.int .u64 (s2:Int)] 87)) (w.heap.size+1) 87 #[.int .u64 (s1:Int),.int .u64 (s2:Int)]:=Blk.newAt (by simp);refine bodyPost_ret (qap (P:=Tryd.prog) rfl rfl hb5 hu rfl hz) rfl ⟨by rw [HV.out],?_⟩;exact (below_new _ _).alloc (by simp) _
section
variable {P:Program}
theorem run_store_part {w:World} {ty:TypeId} {g k n:Nat} {r cs new:Array Value} {t:TypeId} (hg:Blk w g t cs) (hi:(P.info? ty).map (·.size)=some n) (hn:r.size=n) (hfit:k+n≤cs.size) (h1:∀ v ∈ r.toList,v.oneCell'=true)
  (hnew:(cs.toList.take k++r.toList++cs.toList.drop (k+n)).toArray=new) :
  (storeVar ty ⟨g,k,none⟩ (.agg r)).run P w=.ok () (w.setRow g new):=by
 have hst:=run_storeCells_at P g k t r.toList 0 cs w hg (by simp; omega) h1;rw [Nat.add_zero,Array.length_toList,hn,hnew] at hst;have hc:(Value.agg r).cells=r:=rfl
 cases hq:P.info? ty with
 | none=>simp [hq] at hi
 | some j =>
  have hj:j.size=n:=by simpa [hq] using hi
  simp [storeVar,hc,sizeOf,typeInfo,hq,hj,hn,hst]
theorem qby {w:World} {ops:Array Oper} {rest:List Oper} {o:Oper} {a:Act} {Q:Exit→Act→World→Prop} {ty:TypeId} {x y:Operand} {g k n:Nat} {r cs new:Array Value} {t:TypeId}
  (hg:Blk w g t cs) (hfit:k+n≤cs.size) (hnew:(cs.toList.take k++r.toList++cs.toList.drop (k+n)).toArray=new) (hn:r.size=n) (h1:∀ v ∈ r.toList,v.oneCell'=true)
  (hgd:o.guard=none) (ho:o.op=.store ty x y) (hx:a.eval x=.pointer (some ⟨g,k,none⟩)) (hy:a.eval y=.agg r) (hi:(P.info? ty).map (·.size)=some n)
  (h:∀ w',Blk w' g t new→Wrote g w w'→wpList P ops Q rest (a.put o.dst undef) w'):wpList P ops Q (o :: rest) a w:=by
 refine wpList_plain hgd fun K hK=>?_;have hr:=run_store_part (P:=P) (ty:=ty) hg hi hn hfit h1 hnew;unfold Oper.wp execOp;simp only [ho,hx,hy,Instr.storeAt,Instr.sureAddr,Sem.run_bind,Sem.run_pure,Result.andThen_ok,hr];exact hK _ _ (h _ (setRow_heap w g cs _ t (0,0) hg) (qbl w g _))
end
def updN (f:Nat→Nat) (p v:Nat):Nat→Nat:=fun j=>if j=p then v else f j
def rV (f:Nat→Nat):Array Value:=(wdV (f 0))++(wdV (f 1))++(wdV (f 2))++(wdV (f 3))++(wdV (f 4))
theorem rV_part (f:Nat→Nat) (p:Nat) (h:p<5):(((rV f).toList.drop (p*2)).take 2).toArray=wdV (f p):=by
 match p,h with
 | 0,_=>rfl
 | 1,_=>rfl
 | 2,_=>rfl
 | 3,_=>rfl
 | 4,_=>rfl
theorem rV_put (f:Nat→Nat) (p v:Nat) (h:p<5):((rV f).toList.take (p*2)++(wdV v).toList++(rV f).toList.drop (p*2+2)).toArray=rV (updN f p v):=by
 match p,h with
 | 0,_=>rfl
 | 1,_=>rfl
 | 2,_=>rfl
 | 3,_=>rfl
 | 4,_=>rfl
theorem rV_lo (f:Nat→Nat) (p:Nat) (h:p<5):(rV f)[p*2+1]?=some (.int .u64 ((f p%18446744073709551616:Nat):Int)):=by
 match p,h with
 | 0,_=>rfl
 | 1,_=>rfl
 | 2,_=>rfl
 | 3,_=>rfl
 | 4,_=>rfl
theorem qcS (f:Nat→Nat):(rV f).size=10:=rfl
def termN (x y:E5) (i k:Nat):Nat:=(if 5≤i+k then (limbs x).getD i 0*19 else (limbs x).getD i 0)*(limbs y).getD k 0
def posN (i k:Nat):Nat:=if 5≤i+k then i+k - 5 else i+k
def rowN (x y:E5) (i:Nat) (f:Nat→Nat):Nat→Nat→Nat
 | 0=>f
 | k+1=>updN (rowN x y i f k) (posN i k) (rowN x y i f k (posN i k)+termN x y i k)
def accN (x y:E5):Nat→Nat→Nat
 | 0=>fun _=>0
 | i+1=>rowN x y i (accN x y i) 5
theorem acc_end (x y:E5) (j:Nat) (h:j<5):accN x y 5 j=(limbs (mulR x y)).getD j 0:=by
 match j,h with
 | 0,_=>simp [accN,rowN,updN,posN,termN,limbs,mulR]
 | 1,_=>simp [accN,rowN,updN,posN,termN,limbs,mulR]
 | 2,_=>simp [accN,rowN,updN,posN,termN,limbs,mulR]
 | 3,_=>simp [accN,rowN,updN,posN,termN,limbs,mulR]
 | 4,_=>simp [accN,rowN,updN,posN,termN,limbs,mulR]
theorem term_le {x y:E5} (hx:x.Ok) (hy:y.Ok) (i k:Nat):termN x y i k≤385365782469381566918211934355475:=by
 have h1:=qaN hx (by decide) i;have h2:=qaN hy (by decide) k;unfold termN
 split
 ·have:=qcW (a:=(limbs x).getD i 0*19) (b:=(limbs y).getD k 0) (m:=85568392920039406) (n:=4503599627370496) (by omega) h2;exact Nat.le_trans this (by decide)
 ·have:=qcW (a:=(limbs x).getD i 0) (b:=(limbs y).getD k 0) (m:=4503599627370496) (n:=4503599627370496) h1 h2;exact Nat.le_trans this (by decide)
theorem row_le {x y:E5} (hx:x.Ok) (hy:y.Ok) (i:Nat) {f:Nat→Nat} {B:Nat} (hf:∀ j,f j≤B):∀ k j,rowN x y i f k j≤B+k*385365782469381566918211934355475
 | 0,j=>by simpa [rowN] using hf j
 | k+1,j=>by
  have h1:=row_le hx hy i hf k;have h2:=term_le hx hy i k;simp only [rowN,updN]
  split
  ·have:=h1 (posN i k); omega
  ·exact Nat.le_trans (h1 j) (Nat.add_le_add_left (Nat.mul_le_mul_right _ (Nat.le_succ k)) _)
theorem acc_le {x y:E5} (hx:x.Ok) (hy:y.Ok):∀ i j,accN x y i j≤i*1926828912346907834591059671777375
 | 0,j=>by simp [accN]
 | i+1,j=>by
  have h1:=row_le hx hy i (acc_le hx hy i) 5 j;simp only [accN];omega
def zerosV:Array Value:=#[.int .u64 0,.int .u64 0,.int .u64 0,.int .u64 0,.int .u64 0,.int .u64 0,.int .u64 0,.int .u64 0,.int .u64 0,.int .u64 0]
theorem mul_w64' (a b:Nat) (h:a*b<18446744073709551616):IntKind.u64.wrap ((a:Int)*(b:Int))=((a*b:Nat):Int):=by
 rw [show (a:Int)*(b:Int)=((a*b:Nat):Int) by simp,IntKind.wrap_u64]; omega
structure M4 (w0:World) (g h r s:Nat) (x y z m:Array Value) (u:World):Prop where
 bel:Below w0.heap.size w0 u
 x:Blk u g 46 x
 y:Blk u h 46 y
 z:Blk u r 46 z
 m:Blk u s 88 m
 lg:w0.heap.size≤g
 lh:w0.heap.size≤h
 lr:w0.heap.size≤r
 ls:w0.heap.size≤s
 gs:g≠s
 hs:h≠s
 rs:r≠s
theorem M4.putM {w0 u u':World} {g h r s:Nat} {x y z m m':Array Value} (k:M4 w0 g h r s x y z m u) (hw:Wrote s u u') (hb:Blk u' s 88 m'):M4 w0 g h r s x y z m' u' :=
 ⟨hw.below k.bel k.ls k.bel.size,hw.blk k.x k.gs,hw.blk k.y k.hs,hw.blk k.z k.rs,hb,k.lg,k.lh,k.lr,k.ls,k.gs,k.hs,k.rs⟩
theorem M4.next {w0 u u':World} {g h r s:Nat} {x y z m:Array Value} (k:M4 w0 g h r s x y z m u) (hb:Below u.heap.size u u'):M4 w0 g h r s x y z m u' :=
 ⟨k.bel.trans (hb.mono k.bel.size),k.x.below hb k.x.lt,k.y.below hb k.y.lt,k.z.below hb k.z.lt,k.m.below hb k.m.lt,k.lg,k.lh,k.lr,k.ls,k.gs,k.hs,k.rs⟩
theorem M4.cast {w0 u:World} {g h r s:Nat} {x y z m m':Array Value} (k:M4 w0 g h r s x y z m u) (e:m=m'):M4 w0 g h r s x y z m' u:=e▸k
structure O3 (w0:World) (r s q:Nat) (z m v:Array Value) (u:World):Prop where
 bel:Below w0.heap.size w0 u
 z:Blk u r 46 z
 m:Blk u s 88 m
 o:Blk u q 46 v
 lr:w0.heap.size≤r
 lo:w0.heap.size≤q
 ro:r≠q
 so:s≠q
theorem O3.put {w0 u u':World} {r s o:Nat} {z m v v':Array Value} (k:O3 w0 r s o z m v u) (hw:Wrote o u u') (hb:Blk u' o 46 v'):O3 w0 r s o z m v' u' :=
 ⟨hw.below k.bel k.lo k.bel.size,hw.blk k.z k.ro,hw.blk k.m k.so,hb,k.lr,k.lo,k.ro,k.so⟩
theorem O3.next {w0 u u':World} {r s o:Nat} {z m v:Array Value} (k:O3 w0 r s o z m v u) (hb:Below u.heap.size u u'):O3 w0 r s o z m v u' :=
 ⟨k.bel.trans (hb.mono k.bel.size),k.z.below hb k.z.lt,k.m.below hb k.m.lt,k.o.below hb k.o.lt,k.lr,k.lo,k.ro,k.so⟩
theorem M4.out {w0 u:World} {g h r s:Nat} {x y z m:Array Value} (k:M4 w0 g h r s x y z m u) (v:Array Value):O3 w0 r s u.heap.size z m v (u.alloc (.cells v 46)) :=
 ⟨k.bel.alloc k.bel.size _,k.z.alloc _,k.m.alloc _,Blk.new _ _ _,k.lr,k.bel.size,Nat.ne_of_lt k.z.lt,Nat.ne_of_lt k.m.lt⟩
theorem m4_new (w:World) (x y z m:Array Value):M4 w w.heap.size (w.heap.size+1) (w.heap.size+1+1) (w.heap.size+1+1+1) x y z m ((((w.alloc (.cells x 46)).alloc (.cells y 46)).alloc (.cells z 46)).alloc (.cells m 88)) :=
 ⟨(((below_new _ _).alloc (by simp) _).alloc (by simp; try omega) _).alloc (by simp; try omega) _,(((Blk.new _ _ _).alloc _).alloc _).alloc _,((Blk.newAt (by simp)).alloc _).alloc _,(Blk.newAt (by simp)).alloc _,Blk.newAt (by simp),Nat.le_refl _,by omega,by omega,by omega,by omega,by omega,by omega⟩
theorem mul_any (x y:E5) (w:World) (hx:x.Ok) (hy:y.Ok):Calls Tryd.prog 39 #[.agg (eV x),.agg (eV y)] w (ElemPost (mulE x y) w):=by
 have hu:=Tryd.underlying46;have hu5:=Tryd.underlying44;have huw:=Tryd.underlying87;have hst0:M4 w w.heap.size (w.heap.size+1) (w.heap.size+1+1) (w.heap.size+1+1+1) (eV x) (eV y) (eV zE) zerosV _:=m4_new w (eV x) (eV y) (eV zE) zerosV;have hz0:zerosV=rV (accN x y 0):=by simp [zerosV,rV,wdV,accN]
 have HZ0:=zY hz0;clear hz0;have HX:=zY hx;have HY:=zY hy;have HST0:=zY hst0;clear hx hy hst0;go_enter Tryd.func39,Tryd.ntmps39;go_wp2_with (refine qah (x:=.tmp 14) (n:=5) (r:=eV x) HST0.out.x (by rw [eV_size]; decide) rfl rfl rfl rfl hu5 rfl qcc ?_);generalize hs:w.heap.size+1+1+1=s at *;generalize hr:w.heap.size+1+1=r at *;generalize hh:w.heap.size+1=h at *;generalize hg:w.heap.size=g at *;have HS:=zY hs;have HR:=zY hr;have HH:=zY hh;have HG:=zY hg;clear hr hh hg hs
 go_loopw [16] (fun i wr=>∃ k:Nat,k≤5∧i=.int .i64 k∧M4 w g h r s (eV x) (eV y) (eV zE) (rV (accN x y k)) wr) (fun i _=>5 - (intOf i).toNat)
 case atStart=>exact ⟨0,by omega,rfl,HST0.out.cast HZ0.out⟩
 case round =>
  clear HST0;obtain ⟨i,hi,rfl,hst⟩:=hrel
  by_cases hlt:i<5
  ·have hlt':(i:Int)<5:=by omega
   obtain ⟨xi,hxi⟩:=eX ((limbs x).getD i 0);have hxl:xi<4503599627370496:=by rw [hxi]; exact qaN HX.out (by decide) i
   have hix:∀ u:World,(Instr.index 44 (.agg (eV x)) (.int .i64 (i:Int))).run Tryd.prog u=.ok (.int .u64 (xi:Int)) u:=fun u =>
    qaH (n:=5) (e:=43) hu5 hlt (by rw [hxi]; exact eV_at x i hlt) (by kernel_rfl) (by kernel_rfl) ⟨_,Tryd.underlying43⟩
   have HST:=zY hst;have HXI:=zY hxi;have HXL:=zY hxl;clear hst hxi hxl;go_wp2_with (refine qah (x:=.tmp 20) (n:=5) (r:=eV y) HST.out.y (by rw [eV_size]; decide) rfl rfl rfl rfl hu5 rfl qcc ?_);obtain ⟨wo,rfl⟩:=eX wr
   go_loopw [22] (fun c wr=>∃ k:Nat,k≤5∧c=.int .i64 k∧M4 w g h r s (eV x) (eV y) (eV zE) (rV (rowN x y i (accN x y i) k)) wr) (fun c _=>5 - (intOf c).toNat)
   case atStart=>exact ⟨0,by omega,rfl,HST.out⟩
   case round =>
    clear HST hix;obtain ⟨k,hk,rfl,hst⟩:=hrel
    by_cases hltk:k<5
    ·have hltk':(k:Int)<5:=by omega
     obtain ⟨yk,hyk⟩:=eX ((limbs y).getD k 0);have hyl:yk<4503599627370496:=by rw [hyk]; exact qaN HY.out (by decide) k
     have hiy:∀ u:World,(Instr.index 44 (.agg (eV y)) (.int .i64 (k:Int))).run Tryd.prog u=.ok (.int .u64 (yk:Int)) u:=fun u =>
      qaH (n:=5) (e:=43) hu5 hltk (by rw [hyk]; exact eV_at y k hltk) (by kernel_rfl) (by kernel_rfl) ⟨_,Tryd.underlying43⟩
     obtain ⟨F,hF⟩:=eX (rowN x y i (accN x y i) k)
     have hFl:∀ p,F p<100000000000000000000000000000000000:=fun p=>by
      have h1:=row_le HX.out HY.out i (acc_le HX.out HY.out i) k p;rw [hF]; omega
     by_cases hge:5≤i+k
     ·obtain ⟨p,hp⟩:∃ p,i+k=p+5:=⟨i+k - 5,by omega⟩;have hp5:p<5:=by omega
      have hpi:(i:Int)+(k:Int) - 5=(p:Int):=by omega
      have hgei:(5:Int)≤(i:Int)+(k:Int):=by omega
      have hrow:rowN x y i (accN x y i) (k+1)=updN F p (F p+xi*19*yk):=by
       have e1:posN i k=p:=by unfold posN; rw [if_pos hge]; omega
       have e2:termN x y i k=xi*19*yk:=by unfold termN; rw [if_pos hge,← HXI.out,← hyk]
       simp only [rowN,e1,e2,← hF]
      rw [← hF] at hst
      have hplus:=plus_any (F p) (xi*19) yk (by have:=HXL.out; omega) (by omega) (by
       have h1:=hFl p;have h2:=qcW (a:=xi*19) (b:=yk) (m:=85568392920039406) (n:=4503599627370496) (by have:=HXL.out; omega) hyl;have h3:(85568392920039406 - 1)*(4503599627370496 - 1)=385365782469381566918211934355475:=by decide
       rw [h3] at h2; omega)
      have hx19:=mul_w64' xi 19 (by have:=HXL.out; omega);rw [show ((19:Nat):Int)=19 from rfl] at hx19;obtain ⟨x19,hx19e⟩:=eX (xi*19);rw [← hx19e] at hx19 hplus hrow;have hpart:=rV_part F p hp5;have hput:=rV_put F p (F p+x19*yk) hp5;rw [← hrow] at hput;have HPL:=zY hplus;have HPART:=zY hpart;have HPUT:=zY hput;have HST:=zY hst;have HP5:=zY hp5;clear hplus hpart hput hst hx19e hrow hFl hF hyk hyl hp;go_wp2_with (refine qah (x:=.tmp 40) (k:=p*2) (n:=2) (r:=wdV (F p)) HST.out.m (by rw [qcS]; have:=HP5.out; omega) HPART.out rfl rfl rfl huw rfl qbj ?_);refine qab (HPL.out _) ?_;rintro e w2 ⟨rfl,hb2⟩;have hs2:=HST.out.next hb2;have HS2:=zY hs2;clear HST hs2 hb2;go_wp2_with (refine qby (x:=.tmp 45) (k:=p*2) (n:=2) (r:=wdV (F p+x19*yk)) HS2.out.m (by rw [qcS]; have:=HP5.out; omega) HPUT.out rfl (by simp [wdV,Value.oneCell']) rfl rfl rfl rfl qbj ?_; intro w5 hb5 hw5);exact ⟨⟨k+1,by omega,by go_num,HS2.out.putM hw5 hb5⟩,by simp [intOf]; omega⟩
     ·obtain ⟨p,hp⟩:=eX (i+k);have hp5:p<5:=by omega
      have hpi:(i:Int)+(k:Int)=(p:Int):=by omega
      have hgei:¬ (5:Int)≤(p:Int):=by omega
      have hrow:rowN x y i (accN x y i) (k+1)=updN F p (F p+xi*yk):=by
       have e1:posN i k=p:=by unfold posN; rw [if_neg hge]; exact hp.symm
       have e2:termN x y i k=xi*yk:=by unfold termN; rw [if_neg hge,← HXI.out,← hyk]
       simp only [rowN,e1,e2,← hF]
      rw [← hF] at hst
      have hplus:=plus_any (F p) xi yk (by have:=HXL.out; omega) (by omega) (by
       have h1:=hFl p;have h2:=qcW (a:=xi) (b:=yk) (m:=85568392920039406) (n:=4503599627370496) (by have:=HXL.out; omega) hyl;have h3:(85568392920039406 - 1)*(4503599627370496 - 1)=385365782469381566918211934355475:=by decide
       rw [h3] at h2; omega)
      have hpart:=rV_part F p hp5;have hput:=rV_put F p (F p+xi*yk) hp5;rw [← hrow] at hput;have HPL:=zY hplus;have HPART:=zY hpart;have HPUT:=zY hput;have HST:=zY hst;have HP5:=zY hp5;clear hplus hpart hput hst hrow hFl hF hyk hyl hp hge;go_wp2_with (refine qah (x:=.tmp 52) (k:=p*2) (n:=2) (r:=wdV (F p)) HST.out.m (by rw [qcS]; have:=HP5.out; omega) HPART.out rfl rfl rfl huw rfl qbj ?_);refine qab (HPL.out _) ?_;rintro e w2 ⟨rfl,hb2⟩;have hs2:=HST.out.next hb2;have HS2:=zY hs2;clear HST hs2 hb2;go_wp2_with (refine qby (x:=.tmp 57) (k:=p*2) (n:=2) (r:=wdV (F p+xi*yk)) HS2.out.m (by rw [qcS]; have:=HP5.out; omega) HPUT.out rfl (by simp [wdV,Value.oneCell']) rfl rfl rfl rfl qbj ?_; intro w5 hb5 hw5);exact ⟨⟨k+1,by omega,by go_num,HS2.out.putM hw5 hb5⟩,by simp [intOf]; omega⟩
    ·obtain rfl:k=5:=by omega
     have hs6:M4 w g h r s (eV x) (eV y) (eV zE) (rV (accN x y (i+1))) wr:=hst;have HS6:=zY hs6;clear hst hs6;go_wp2_with fail;exact ⟨⟨i+1,by omega,by go_num,HS6.out⟩,by simp [intOf]; omega⟩
  ·obtain rfl:i=5:=by omega
   obtain ⟨R,hR⟩:=eX (mulR x y);have hRl:∀ j,(limbs R).getD j 0<2596148429267413814265248164610048:=fun j=>by rw [hR]; exact qaN (mulR_lt HX.out HY.out).1 (by decide) j
   have hRe:(limbs R).getD 4 0<162259276829213363391578010288128:=by rw [hR]; exact (mulR_lt HX.out HY.out).2
   have hacc:∀ j,j<5→accN x y 5 j=(limbs R).getD j 0:=fun j hj=>by rw [hR]; exact acc_end x y j hj
   have hbig:(carryE R).Lt 18446744073709551616:=by rw [hR]; exact mul_big HX.out HY.out
   have hmul:mulE x y=carryE (carryE R):=by rw [hR]; rfl
   have ho:=hst.out (eV zE);obtain ⟨A,hA⟩:=eX (rV (accN x y 5));have hpart:∀ j,j<5→((A.toList.drop (j*2)).take 2).toArray=wdV ((limbs R).getD j 0):=fun j hj=>by rw [hA,rV_part _ _ hj,hacc j hj]
   have hlo:∀ j,j<5→A[j*2+1]?=some (.int .u64 (((limbs R).getD j 0%18446744073709551616:Nat):Int)):=fun j hj=>by rw [hA,rV_lo _ _ hj,hacc j hj]
   have hAs:A.size=10:=by rw [hA,qcS]
   rw [← hA] at ho;have HO:=zY ho;have HRL:=zY hRl;have HRE:=zY hRe;have HBIG:=zY hbig;have HMUL:=zY hmul;have HPART:=zY hpart;have HLO:=zY hlo;have HAS:=zY hAs;clear ho hRl hRe hbig hmul hpart hlo hAs hst hacc hR hA;go_wp2_with fail;obtain ⟨wo,hwo⟩:=eX (wr.alloc (.cells #[.int .u64 0,.int .u64 0,.int .u64 0,.int .u64 0,.int .u64 0] 46));obtain ⟨o,hoo⟩:=eX (wr.heap.size);rw [← hwo,← hoo];have ho:O3 w r s o (eV zE) A (mixV (carryE R) zE 0) wo:=by rw [hwo,hoo]; exact HO.out
   have HOO:=zY ho;clear ho hwo hoo HO
   go_loopw [60] (fun i wr=>∃ k:Nat,k≤5∧i=.int .i64 k∧O3 w r s o (eV zE) A (mixV (carryE R) zE k) wr) (fun i _=>5 - (intOf i).toNat)
   case atStart=>exact ⟨0,by omega,rfl,HOO.out⟩
   case round =>
    clear HOO;obtain ⟨k,hk,rfl,hst⟩:=hrel
    by_cases hlt2:k<5
    ·have hlt3:(k:Int)<5:=by omega
     obtain ⟨j,hj⟩:=eX (if k=0 then 4 else k - 1);have hj5:j<5:=by rw [hj]; split <;> omega
     have hjk:((k:Int)+5 - 1)%5=(j:Int):=by rw [hj]; split <;> omega
     have hjk2:((k:Int)+4)%5=(j:Int):=by rw [hj]; split <;> omega
     obtain ⟨m,hm⟩:=eX ((limbs R).getD j 0);obtain ⟨l,hl⟩:=eX ((limbs R).getD k 0);have hml:m<2596148429267413814265248164610048:=by rw [hm]; exact HRL.out j
     have hm4:k=0→m<162259276829213363391578010288128:=fun h0=>by
      rw [hm,hj,if_pos h0]; exact HRE.out
     have hset:=qbN (carryE R) zE k hlt2
     have hval:(limbs (carryE R)).getD k 0=l%2251799813685248+(if k=0 then m/2251799813685248*19 else m/2251799813685248):=by
      rw [carryE_at _ _ hlt2,← hl,hm,hj]
      by_cases h0:k=0
      ·simp only [h0,if_pos]; rw [qcF _ _ (by decide)]
      ·simp only [h0,if_false]; rw [qcF _ _ (by omega)]
     rw [hval] at hset;have hpj:=HPART.out j hj5;rw [← hm] at hpj;have hlk:=HLO.out k hlt2;rw [← hl] at hlk;obtain ⟨lo,hlo⟩:=eX (l%18446744073709551616);rw [← hlo] at hlk;have hlol:lo<18446744073709551616:=by rw [hlo]; exact Nat.mod_lt _ (by decide)
     have hlm:lo%2251799813685248=l%2251799813685248:=by rw [hlo]; omega
     rw [← hlm] at hset;have hov:=over_any m (by omega);obtain ⟨v,hv⟩:=eX (m/2251799813685248);have hvl:v<1152921504606846976:=by rw [hv]; omega
     have hv0:k=0→v<72057594037927936:=fun h0=>by have:=hm4 h0; rw [hv]; omega
     rw [← hv] at hov hset;have d0:=hst.m.cell (k*2+1);rw [hlk] at d0;have q0:=hst.o.free k;have q1:=hst.o.cell k;have HSET:=zY hset;have HST:=zY hst;have HJ:=zY hj;have HPJ:=zY hpj;have HOV:=zY hov;have HJ5:=zY hj5;have HV0:=zY hv0;have HVL:=zY hvl;have HLK:=zY hlk;clear hset hst hl hm hval hj hpj hlk hlo hlm hov hv hv0 hml hm4 hvl
     by_cases h0:k=0
     ·subst h0;obtain rfl:j=4:=by have:=HJ.out; simpa using this
      have hv1:v<72057594037927936:=HV0.out rfl;have hw19:IntKind.u64.wrap ((v:Int)*19)=(v:Int)*19:=by rw [IntKind.wrap_u64]; omega
      have hset1:=HSET.out;rw [if_pos rfl] at hset1;have HSET1:=zY hset1;clear hset1 HSET;have HV1:=zY hv1;have HW19:=zY hw19;rw [show ((0:Nat):Int)=0 from rfl];clear hjk hjk2 hlt3 HV0 hv1 hw19;go_wp2_with (refine qah (x:=.tmp 67) (k:=4*2) (n:=2) (r:=wdV m) HST.out.m (by rw [HAS.out]; decide) HPJ.out rfl rfl rfl huw rfl qbj ?_);refine qab (HOV.out _) ?_;rintro e w2 ⟨rfl,hb2⟩;have hs2:=HST.out.next hb2;have d0:=hs2.m.cell (0*2+1);rw [HLK.out] at d0;have q0:=hs2.o.free 0;have q1:=hs2.o.cell 0;rw [qb3 _ _ _ hlt2] at q1;have HS2:=zY hs2;clear HST hs2 hb2;go_wp2_with fail;refine ⟨?_,by simp [intOf]⟩
      repeat (apply Exists.intro)
      refine ⟨?_,rfl⟩;refine ⟨1,by omega,rfl,HS2.out.put (qaf _ _ _ _) ?_⟩;rw [HW19.out,mask_sum19 lo v hlol (by have:=HV1.out; omega)];have h:=qag (i:=0) HS2.out.o (.int .u64 ((lo%2251799813685248+v*19:Nat):Int));rw [HSET1.out] at h;exact h
     ·have hb:((k:Int) == 0)=false:=by rw [beq_eq_false_iff_ne]; omega
      go_wp2_with (refine qah (x:=.tmp 67) (k:=j*2) (n:=2) (r:=wdV m) HST.out.m (by rw [HAS.out]; have:=HJ5.out; omega) HPJ.out rfl rfl rfl huw rfl qbj ?_);refine qab (HOV.out _) ?_;rintro e w2 ⟨rfl,hb2⟩;have hs2:=HST.out.next hb2;have d0:=hs2.m.cell (k*2+1);rw [HLK.out] at d0;have q0:=hs2.o.free k;have q1:=hs2.o.cell k;rw [qb3 _ _ _ hlt2] at q1;have HS2:=zY hs2;clear HST hs2 hb2;go_wp2_with fail;refine ⟨?_,by simp [intOf]; omega⟩
      repeat (apply Exists.intro)
      refine ⟨?_,rfl⟩;refine ⟨k+1,by omega,by go_num,HS2.out.put (qaf _ _ _ _) ?_⟩;rw [mask_sum lo v hlol (by have:=HVL.out; omega)];have h:=qag (i:=k) HS2.out.o (.int .u64 ((lo%2251799813685248+v:Nat):Int));have h2:=HSET.out;rw [if_neg h0] at h2;rw [h2] at h;exact h
    ·obtain rfl:k=5:=by omega
     rw [qbO] at hst;have HST:=zY hst;clear hst;go_wp2_with (refine qac (x:=.tmp 11) HST.out.o rfl rfl rfl hu rfl qad ?_);refine qab (qba (carryE R) _ HBIG.out) ?_;rintro e w2 ⟨rfl,hb2⟩;have hs2:=HST.out.next hb2;have HS2:=zY hs2;clear HST hs2 hb2;rw [← HMUL.out];go_wp2_with (refine qae (x:=.tmp 4) (cells:=eV (mulE x y)) HS2.out.z rfl rfl rfl rfl qad rfl (by simp [eV,wV,limbs,Value.oneCell']) ?_; intro w5 hb5 hw5);refine bodyPost_ret (qap (P:=Tryd.prog) rfl rfl hb5 hu rfl qad) rfl ⟨rfl,?_⟩;exact hw5.below HS2.out.bel HS2.out.lr HS2.out.bel.size
def natE (m:Nat):E5:=⟨m%2251799813685248,m/2251799813685248,0,0,0⟩
def intE (n:Int):E5:=if n<0 then subE zE (natE n.natAbs) else natE n.natAbs
theorem natE_val (m:Nat):(natE m).val=m:=by simp only [natE,E5.val]; omega
theorem natE_ok {m:Nat} (h:m≤9223372036854775808):(natE m).Ok:=by constructor <;> simp only [natE] <;> omega
theorem zE_ok:zE.Ok:=by constructor <;> decide
theorem intE_ok {n:Int} (h1:-9223372036854775808≤n) (h2:n<9223372036854775808):(intE n).Ok:=by
 unfold intE
 split
 ·exact qaP zE_ok (natE_ok (by omega))
 ·exact natE_ok (by omega)
theorem int_any (n:Int) (h1:-9223372036854775808≤n) (h2:n<9223372036854775808) (w:World):Calls Tryd.prog 42 #[.int .i64 n] w (ElemPost (intE n) w):=by
 have hu:=Tryd.underlying46
 have hst0:G2 w (w.heap.size+1) w.heap.size (eV (natE n.natAbs)) (eV zE) ((w.alloc (.cells (eV zE) 46)).alloc (.cells (eV (natE n.natAbs)) 46)) :=
  ⟨(below_new _ _).alloc (by simp) _,Blk.newAt (by simp),(Blk.new _ _ _).alloc _,by omega,Nat.le_refl _,by omega⟩
 have HST0:=zY hst0;obtain ⟨m,hm⟩:=eX (n.natAbs);have hml:m≤9223372036854775808:=by omega
 have hok:=natE_ok hml;rw [← hm] at HST0
 by_cases hneg:n<0
 ·have hi:intE n=subE zE (natE m):=by unfold intE; rw [if_pos hneg,hm]
  obtain rfl:n=-(m:Int):=by omega
  obtain ⟨u,hum⟩:=eX (18446744073709551616 - m);have hw1:IntKind.u64.wrap (-(m:Int))=(u:Int):=by rw [IntKind.wrap_u64]; omega
  have hw2:IntKind.u64.wrap (-(u:Int))=(m:Int):=by rw [IntKind.wrap_u64]; omega
  have hd:0<m:=by omega
  have hmk:=qcY m (by omega);rw [hi];have hE:eV (natE m)=#[.int .u64 ((m:Int)%2251799813685248),.int .u64 ((m:Int)/2251799813685248),.int .u64 0,.int .u64 0,.int .u64 0]:=by simp [eV,wV,limbs,natE]
  have hZ:eV zE=#[.int .u64 0,.int .u64 0,.int .u64 0,.int .u64 0,.int .u64 0]:=by simp [eV,wV,limbs,zE]
  have hc:=fun u=>sub_any zE (natE m) u (zE_ok.mono (by decide)) hok.big;rw [hE,hZ] at hc HST0;have HC:=zY hc;clear hst0 hi hok h1 h2 hml hneg hum hm hc hE hZ;go_enter Tryd.func42,Tryd.ntmps42;go_wp2_with fail;refine qab (HC.out _) ?_;rintro e w2 ⟨rfl,hb2⟩;have hs2:=HST0.out.next hb2;have HS2:=zY hs2;clear HST0 hs2 hb2;go_wp2_with (refine qae (x:=.tmp 2) (cells:=eV (subE zE (natE m))) HS2.out.z rfl rfl rfl rfl qad rfl (by simp [eV,wV,limbs,Value.oneCell']) ?_; intro w5 hb5 hw5);refine bodyPost_ret (qap (P:=Tryd.prog) rfl rfl hb5 hu rfl qad) rfl ⟨rfl,?_⟩;exact hw5.below HS2.out.bel HS2.out.lr HS2.out.bel.size
 ·have hi:intE n=natE m:=by unfold intE; rw [if_neg hneg,hm]
  obtain rfl:n=(m:Int):=by omega
  have hw1:IntKind.u64.wrap (m:Int)=(m:Int):=by rw [IntKind.wrap_u64]; omega
  have hmk:=qcY m (by omega);rw [hi];have hE:eV (natE m)=#[.int .u64 ((m:Int)%2251799813685248),.int .u64 ((m:Int)/2251799813685248),.int .u64 0,.int .u64 0,.int .u64 0]:=by simp [eV,wV,limbs,natE]
  have hZ:eV zE=#[.int .u64 0,.int .u64 0,.int .u64 0,.int .u64 0,.int .u64 0]:=by simp [eV,wV,limbs,zE]
  rw [hE,hZ] at HST0;have HE:=zY hE;clear hst0 hi hok h1 h2 hml hneg hm hE hZ;go_enter Tryd.func42,Tryd.ntmps42;go_wp2_with fail;refine bodyPost_ret (qap (P:=Tryd.prog) rfl rfl ((Blk.new w _ _).alloc _) hu rfl qad) rfl ⟨by rw [HE.out],?_⟩;exact (below_new _ _).alloc (by simp) _
theorem qcf:∀ (xs ys:List Nat),xs.length=ys.length→((List.range xs.length).all fun i=>xs.getD i 0 == ys.getD i 0)=(xs == ys)
 | [],[],_=>rfl
 | x :: xs,y :: ys,h=>by
  have ih:=qcf xs ys (by simpa using h);rw [List.length_cons,List.range_succ_eq_map,List.all_cons,List.all_map];simp only [List.getD_cons_zero,Function.comp_def,List.getD_cons_succ,ih];simp [List.cons_beq_cons]
 | [],_ :: _,h=>by simp at h
 | _ :: _,[],h=>by simp at h
section
variable {P:Program} (w:World)
def wcell (x:Nat):Value:=.int .u64 (x:Int)
theorem qck (d:Nat) (t e:TypeId) (n:Nat) (ht:P.underlying t=some (.array n e)) (he:P.underlying e=some (.int .u64)) (hsz:∀ w,(sizeOf e).run P w=.ok 1 w)
  (xs ys:List Nat) (hx:xs.length=n) (hy:ys.length=n) :
  (Op.equalIn (d+2) t (.agg (xs.map wcell).toArray) (.agg (ys.map wcell).toArray)).run P w=.ok (xs == ys) w:=by
 rw [← qcf xs ys (hx.trans hy.symm),hx,List.range_eq_range',Op.equalIn];simp only [Sem.run_bind,run_underlying ht,Result.andThen_ok,hsz,Std.Legacy.Range.forIn_eq_forIn_range',Std.Legacy.Range.size,Nat.sub_zero,Nat.add_sub_cancel,Nat.div_one];have hl:∀ i ∈ List.range' 0 n 1,i<n:=fun i hi=>by simpa using (List.mem_range'_1.1 hi).2
 generalize List.range' 0 n 1=l at hl ⊢
 induction l with
 | nil=>simp
 | cons i l ih =>
  have hi:i<n:=hl i (by simp)
  have px:(part e (xs.map wcell).toArray (i*1)).run P w=.ok (wcell (xs.getD i 0)) w:=by
   simp [part,isAgg,run_underlying he,List.getD,List.getElem?_eq_getElem (show i<xs.length by omega)]
  have py:(part e (ys.map wcell).toArray (i*1)).run P w=.ok (wcell (ys.getD i 0)) w:=by
   simp [part,isAgg,run_underlying he,List.getD,List.getElem?_eq_getElem (show i<ys.length by omega)]
  have pe:(Op.equalIn (d+1) e (wcell (xs.getD i 0)) (wcell (ys.getD i 0))).run P w=.ok (xs.getD i 0 == ys.getD i 0) w:=by
   rw [wcell,wcell,run_equalIn_int w d e .u64 .u64 _ _ he]
   congr 1
   rw [Bool.eq_iff_iff];simp;omega
  simp only [List.forIn_cons,Sem.run_bind,px,py,pe,Result.andThen_ok,List.all_cons]
  cases hb:(xs.getD i 0 == ys.getD i 0)
  ·simp
  ·simp only [Bool.not_true,Bool.false_eq_true,if_false,Sem.run_pure,Result.andThen_ok,Bool.true_and];exact ih fun j hj=>hl j (by simp [hj])
end
theorem eql_elem (x y:E5) (w:World):(binOp .eql 46 (.agg (eV x)) (.agg (eV y))).run Tryd.prog w=.ok (.bool (limbs x == limbs y)) w:=by
 have hp:∀ z:E5,∀ u:World,(part 44 (eV z) 0).run Tryd.prog u=.ok (.agg (eV z)) u:=fun z u=>by kernel_rfl
 have hf:Tryd.prog.fieldsOf 46=#[{ name := "l",type:=44,offset:=0,embedded:=false,tag := "",pkgPath := "brevet/field",byteOffset:=0 }]:=by kernel_rfl
 have he:(Op.equalIn (9997+2) 44 (.agg (eV x)) (.agg (eV y))).run Tryd.prog w=.ok (limbs x == limbs y) w :=
  qck w 9997 44 43 5 Tryd.underlying44 Tryd.underlying43 (fun u=>by kernel_rfl) (limbs x) (limbs y) rfl rfl
 rw [run_eql_struct,run_equalIn_struct w 9999 _ _ _ (by kernel_rfl) (by kernel_rfl),hf];simp only [Op.eqFields,Sem.run_bind,hp,Result.andThen_ok,he];rw [if_pos (by decide)];simp only [Sem.run_bind,hp,Result.andThen_ok,he]
 cases (limbs x == limbs y) <;> rfl
theorem and_one (l:Nat) (h:l<18446744073709551616):bits .and .u64 (l:Int) 1=((l%2:Nat):Int):=by
 have h1:=and64 l 1 h (by decide);rw [show ((1:Nat):Int)=1 from rfl] at h1;rw [h1]
 congr 1
 exact Nat.and_two_pow_sub_one_eq_mod l 1
theorem odd_any (x:E5) (w:World) (hx:x.Lt 18446744073709551616):Calls Tryd.prog 45 #[.agg (eV x)] w (fun e w'=>e=.returned (.bool (decide ((leastE x).a%2=1)))∧Below w.heap.size w w'):=by
 have hu:=Tryd.underlying46;have hu5:=Tryd.underlying44;have HX:=zY hx;clear hx;obtain ⟨z,hz⟩:=eX (leastE x);have hzl:z.a<2251799813685248:=by rw [hz]; exact (qcE x).a
 rw [← hz];have HZ:=zY hz;have HZL:=zY hzl
 have hix:∀ u:World,(Instr.index 44 (.agg (eV z)) (.int .i64 0)).run Tryd.prog u=.ok (.int .u64 (z.a:Int)) u:=fun u =>
  qaH (k:=0) (n:=5) (e:=43) hu5 (by decide) rfl (by kernel_rfl) (by kernel_rfl) ⟨_,Tryd.underlying43⟩
 have hfd:∀ u:World,(Instr.field 46 (.agg (eV z)) 0).run Tryd.prog u=.ok (.agg (eV z)) u:=fun u=>by kernel_rfl
 have hb0:=Blk.new w 46 (eV x);have HB0:=zY hb0;clear hz hzl hb0;go_enter Tryd.func45,Tryd.ntmps45;go_wp2_with (refine qac (x:=.tmp 1) HB0.out rfl rfl rfl hu rfl qad ?_);refine qab (qb9 x _ HX.out) ?_;rintro e w2 ⟨rfl,hb2⟩;rw [← HZ.out];go_wp2_with fail;go_ret;refine ⟨?_,(below_new _ _).trans (hb2.mono (by simp))⟩;rw [and_one z.a (by have:=HZL.out; omega)]
 have e:(((z.a%2:Nat):Int) == 1)=decide (z.a%2=1):=by
  rw [Bool.eq_iff_iff,beq_iff_eq,decide_eq_true_iff];omega
 exact congrArg (fun b=>Ending.returned (.bool b)) e
theorem equal_any (x y:E5) (w:World) (hx:x.Lt 18446744073709551616) (hy:y.Lt 18446744073709551616):Calls Tryd.prog 47 #[.agg (eV x),.agg (eV y)] w (fun e w'=>e=.returned (.bool (limbs (leastE x) == limbs (leastE y)))∧Below w.heap.size w w'):=by
 have hu:=Tryd.underlying46;have hst0:G2 w w.heap.size (w.heap.size+1) (eV x) (eV y) ((w.alloc (.cells (eV x) 46)).alloc (.cells (eV y) 46)):=g2_new w (eV x) (eV y);have HX:=zY hx;have HY:=zY hy;have HC0:=hst0.drew;have heq:=fun u=>eql_elem (leastE x) (leastE y) u;have HEQ:=zY heq;clear hx hy hst0 heq;go_enter Tryd.func47,Tryd.ntmps47;go_wp2_with fail;generalize hr:w.heap.size+1=h at *;generalize hg:w.heap.size=g at *;refine qaj (fun u=>G2 w g h (eV x) (eV y) u) (fun u=>G2 w g h (eV x) (eV y) u) [(0,some 5),(1,some 6),(2,some 7),(3,some 8),(4,some 9),(5,some 4)] (by kernel_rfl) (by kernel_rfl) (by decide) (by kernel_rfl) (fun _=>rfl) HC0 ?_;apply yN_
 ·apply dP [];exact fun _=>rfl;rfl;rintro vals - w1 hC1 E hE;simp only [sP] at hE ⊢;refine qac hC1.x rfl rfl rfl hu rfl qad ?_;go_wp2_with fail;exact .mk (hE _ hC1)
 apply yN_
 ·apply dP [(0,some 5)];exact fun _=>rfl;rfl;intro vals vq w1 hC1 E hE;simp only [sP,vq] at hE ⊢;clear vq;go_wp2_with fail;refine qab (qb9 x _ HX.out) ?_;rintro e w2 ⟨rfl,hb2⟩;go_wp2_with fail;exact .mk (hE _ (hC1.next hb2))
 apply yN_
 ·apply dP [];exact fun _=>rfl;rfl;intro vals vq w1 hC1 E hE;clear vq;simp only [sP] at hE ⊢;refine qac hC1.z rfl rfl rfl hu rfl qad ?_;go_wp2_with fail;exact .mk (hE _ hC1)
 apply yN_
 ·apply dP [(2,some 7),(1,some 6)];exact fun _=>rfl;rfl;intro vals vq w1 hC1 E hE;simp only [sP,vq] at hE ⊢;clear vq;go_wp2_with fail;refine qab (qb9 y _ HY.out) ?_;rintro e w2 ⟨rfl,hb2⟩;go_wp2_with fail;exact .mk (hE _ (hC1.next hb2))
 apply yN_
 ·apply dP [(1,some 6),(3,some 8)];exact fun _=>rfl;rfl;intro vals vq w1 hC1 E hE;have heq:=HEQ.out;simp only [sP,vq] at hE ⊢;clear vq;go_wp2;exact .mk (hE _ hC1)
 apply yL_
 ·apply dP [(4,some 9),(3,some 8),(0,some 5),(1,some 6),(2,some 7),(3,some 8),(4,some 9)];exact fun _=>rfl;rfl;intro vals vq w1 hC1 E hE;simp only [sP,vq] at hE ⊢;clear vq;go_wp2;exact .mk (hE _ hC1)
 intro vals vq w1 hC1;simp only [sP,vq];clear vq;go_wp2_with fail;go_ret;exact ⟨rfl,hC1.bel⟩
def byN (N:Nat):List Nat:=(List.range 32).map fun j=>N/256^j%256
theorem qaO (N:Nat):(byN N).length=32:=by simp [byN]
theorem byN_at (N j:Nat) (h:j<32):(byN N)[j]?=some (N/256^j%256):=by simp [byN,h]
theorem pow256 (j:Nat):256^j=2^(8*j):=by rw [Nat.pow_mul]
theorem byN_zero:byN 0=List.replicate 32 0:=by decide
theorem mod_bit (V n:Nat):V%2^(n+1)=V%2^n+V/2^n%2*2^n:=by
 rw [Nat.pow_succ,Nat.mod_mul,Nat.mul_comm]
theorem byte_other (N b n j:Nat) (hN:N<2^n) (hb:b<2) (hj:j≠n/8):(N+b*2^n)/256^j%256=N/256^j%256:=by
 rw [pow256]
 by_cases h:j<n/8
 ·obtain ⟨d,hd⟩:∃ d,n=8*j+(8+d):=⟨n - 8*j - 8,by omega⟩
  have e:b*2^n=2^(8*j)*(256*(b*2^d)):=by
   rw [hd,Nat.pow_add,Nat.pow_add,show (2:Nat)^8=256 from rfl];rw [Nat.mul_left_comm,Nat.mul_left_comm b 256]
  rw [e,Nat.add_mul_div_left _ _ (Nat.two_pow_pos _),Nat.add_mul_mod_self_left]
 ·have hle:n+1≤8*j:=by omega
  have h2:2^(n+1)≤2^(8*j):=Nat.pow_le_pow_right (by decide) hle;rw [Nat.pow_succ] at h2;have h3:b*2^n≤1*2^n:=Nat.mul_le_mul_right _ (by omega);rw [Nat.div_eq_of_lt (by omega),Nat.div_eq_of_lt (by omega)]
theorem byte_this (N b n:Nat) (hN:N<2^n) (hb:b<2):(N+b*2^n)/256^(n/8)%256=N/256^(n/8)%256 ||| b*2^(n%8):=by
 obtain ⟨q,r,hr,rfl⟩:∃ q r,r<8∧n=8*q+r:=⟨n/8,n%8,by omega,by omega⟩;rw [show (8*q+r)/8=q by omega,show (8*q+r)%8=r by omega,pow256];have hp:=Nat.two_pow_pos (8*q);have e:b*2^(8*q+r)=2^(8*q)*(b*2^r):=by rw [Nat.pow_add,Nat.mul_left_comm]
 rw [e,Nat.add_mul_div_left _ _ hp]
 have hlt:N/2^(8*q)<2^r:=by
  rw [Nat.div_lt_iff_lt_mul hp,← Nat.pow_add,Nat.add_comm]; exact hN
 have hr8:2^(r+1)≤2^8:=Nat.pow_le_pow_right (by decide) (by omega);rw [Nat.pow_succ,show (2:Nat)^8=256 from rfl] at hr8;have hb2:b*2^r≤1*2^r:=Nat.mul_le_mul_right _ (by omega);rw [Nat.mod_eq_of_lt (by omega),Nat.mod_eq_of_lt (a:=N/2^(8*q)) (by omega)];have h:=Nat.shiftLeft_add_eq_or_of_lt hlt b;rw [Nat.shiftLeft_eq] at h;rw [Nat.add_comm,h,Nat.or_comm]
theorem byN_step (V n:Nat) (hn:n<256):(byN (V%2^n)).set (n/8) (V%2^n/256^(n/8)%256 ||| V/2^n%2*2^(n%8))=byN (V%2^(n+1)):=by
 have hN:V%2^n<2^n:=Nat.mod_lt _ (Nat.two_pow_pos _);have hb:V/2^n%2<2:=Nat.mod_lt _ (by decide);rw [mod_bit];apply List.ext_getElem?;intro j
 by_cases hj:j<32
 ·rw [byN_at _ _ hj,List.getElem?_set]
  by_cases h:n/8=j
  ·rw [if_pos h,if_pos (by rw [qaO]; exact h▸hj),← h,byte_this _ _ _ hN hb]
  ·rw [if_neg h,byN_at _ _ hj,byte_other _ _ _ _ hN hb (Ne.symm h)]
 ·rw [List.getElem?_eq_none (by rw [List.length_set,qaO]; omega),List.getElem?_eq_none (by rw [qaO]; omega)]
theorem high_bit (l r k:Nat) (hk:k<51):(l+2251799813685248*r)/2^k%2=l/2^k%2:=by
 obtain ⟨d,hd⟩:∃ d,51=k+(1+d):=⟨50 - k,by omega⟩
 have e:2251799813685248*r=2^k*(2*(2^d*r)):=by
  rw [show (2251799813685248:Nat)=2^51 from rfl,hd,Nat.pow_add,Nat.pow_add,Nat.pow_one,Nat.mul_assoc,Nat.mul_assoc]
 rw [e,Nat.add_mul_div_left _ _ (Nat.two_pow_pos _),Nat.add_mul_mod_self_left]
def bnV (l:List Nat):List Value:=l.map fun n:Nat=>Value.int .u8 (n:Int)
theorem bnV_at {l:List Nat} {j n:Nat} (h:l[j]?=some n):(bnV l).toArray[j]?=some (.int .u8 (n:Int)):=by simp [bnV,h]
theorem qbf (l:List Nat) (j n:Nat):(bnV l).toArray.setIfInBounds j (.int .u8 (n:Int))=(bnV (l.set j n)).toArray:=by simp [bnV,List.map_set]
theorem val_bit (x:E5) (hx:x.Lt 2251799813685248) (i k n:Nat) (hi:i<5) (hk:k<51) (hn:i*51+k=n):x.val/2^n%2=(limbs x).getD i 0/2^k%2:=by
 rw [← hn,Nat.pow_add,← Nat.div_div_eq_div_mul];obtain ⟨h1,h2,h3,h4,h5⟩:=hx
 have go:∀ l r:Nat,x.val/2^(i*51)=l+2251799813685248*r→(limbs x).getD i 0=l→x.val/2^(i*51)/2^k%2=(limbs x).getD i 0/2^k%2:=fun l r e f=>by
  rw [e,f]; exact high_bit l r k hk
 match i,hi with
 | 0,_=>exact go x.a (x.b+x.c*2251799813685248+x.d*5070602400912917605986812821504+x.e*11417981541647679048466287755595961091061972992) (by simp only [E5.val]; omega) rfl
 | 1,_=>exact go x.b (x.c+x.d*2251799813685248+x.e*5070602400912917605986812821504) (by rw [show (2:Nat)^(1*51)=2251799813685248 by decide]; simp only [E5.val]; omega) rfl
 | 2,_=>exact go x.c (x.d+x.e*2251799813685248) (by rw [show (2:Nat)^(2*51)=5070602400912917605986812821504 by decide]; simp only [E5.val]; omega) rfl
 | 3,_=>exact go x.d x.e (by rw [show (2:Nat)^(3*51)=11417981541647679048466287755595961091061972992 by decide]; simp only [E5.val]; omega) rfl
 | 4,_=>exact go x.e 0 (by rw [show (2:Nat)^(4*51)=25711008708143844408671393477458601640355247900524685364822016 by decide]; simp only [E5.val]; omega) rfl
structure B2 (w0:World) (g o:Nat) (x:Array Value) (l:List Nat) (u:World):Prop where
 bel:Below w0.heap.size w0 u
 x:Blk u g 46 x
 out:Blk u o 5 (bnV l).toArray
 lo:w0.heap.size≤o
 go:g≠o
theorem B2.put {w0 u u':World} {g o:Nat} {x:Array Value} {l l':List Nat} (k:B2 w0 g o x l u) (hw:Wrote o u u') (hb:Blk u' o 5 (bnV l').toArray):B2 w0 g o x l' u' :=
 ⟨hw.below k.bel k.lo k.bel.size,hw.blk k.x k.go,hb,k.lo,k.go⟩
theorem B2.drew {w0 u:World} {g o:Nat} {x:Array Value} {l:List Nat} (k:B2 w0 g o x l u):B2 w0 g o x l u.drew :=
 ⟨k.bel.drew,k.x,k.out,k.lo,k.go⟩
theorem b2_new (w0 u:World) (g:Nat) (x:Array Value) (hbel:Below w0.heap.size w0 u) (hx:Blk u g 46 x):B2 w0 g u.heap.size x (byN 0) (u.alloc (.cells (bnV (byN 0)).toArray 5)) :=
 ⟨hbel.alloc hbel.size _,hx.alloc _,Blk.new _ _ _,hbel.size,Nat.ne_of_lt hx.lt⟩
def BytesPost (N:Nat) (w:World) (e:Ending) (w':World):Prop :=
 ∃ o,e=.returned (.slice (some ⟨o,0,none⟩) 32 32)∧w.heap.size≤o∧Blk w' o 5 (bnV (byN N)).toArray∧Below w.heap.size w w'
theorem qc9 (x:E5) (w:World) (hx:x.Lt 18446744073709551616):Calls Tryd.prog 55 #[.agg (eV x)] w (BytesPost (leastE x).val w):=by
 have hu:=Tryd.underlying46;have hu5:=Tryd.underlying44;obtain ⟨z,hz⟩:=eX (leastE x);have hzl:z.Lt 2251799813685248:=by rw [hz]; exact qcE x
 have hmk:∀ u:World,(Instr.makeSlice 22 (.int .i64 32) (.int .i64 32)).run Tryd.prog u=.ok (.slice (some ⟨u.heap.size,0,none⟩) 32 32) (u.alloc (.cells (bnV (byN 0)).toArray 5)):=fun _=>by rw [byN_zero]; kernel_rfl
 rw [← hz];have HX:=zY hx;have HZ:=zY hz;have HZL:=zY hzl;have hb0:=Blk.new w 46 (eV x);have HB0:=zY hb0;clear hx hz hzl hb0;go_enter Tryd.func55,Tryd.ntmps55;go_wp2_with (refine qac (x:=.tmp 1) HB0.out rfl rfl rfl hu rfl qad ?_);refine qab (qb9 x _ HX.out) ?_;rintro e w2 ⟨rfl,hb2⟩;rw [← HZ.out];have hb3:Below w.heap.size w w2:=(below_new _ _).trans (hb2.mono (by simp));have hb4:=HB0.out.below hb2 HB0.out.lt;have HB3:=zY hb3;have HB4:=zY hb4;clear hb2 hb3 hb4 HB0;generalize hg:w.heap.size=g at *
 go_wp2_with (first
  | (refine qae (x:=.tmp 1) (cells:=eV z) HB4.out rfl rfl rfl rfl qad rfl (by simp [eV,wV,limbs,Value.oneCell']) ?_; intro w5 hb5 hw5; have HB5:=zY hb5; have HW5:=zY hw5; clear hb5 hw5)
  | (refine qah (x:=.tmp 11) (n:=5) (r:=eV z) (HB5.out.alloc _) (by rw [eV_size]; decide) rfl rfl rfl rfl hu5 rfl qcc ?_))
 have hst0:=b2_new w w5 g (eV z) (by
  rw [hg];exact HW5.out.below HB3.out (Nat.le_refl _) (by rw [← hg]; exact HB3.out.size)) HB5.out
 obtain ⟨o,ho⟩:=eX (w5.heap.size);obtain ⟨V,hV⟩:=eX (z.val);have h00:byN 0=byN (V%2^(0*51)):=by rw [Nat.zero_mul,Nat.pow_zero,Nat.mod_one]
 rw [← ho,h00] at hst0;rw [← ho,h00,← hV];have HV:=zY hV;have HST0:=zY hst0;clear hst0 ho HB3 HB4 HB5 HW5 hmk h00 hV
 go_loopw [13] (fun i wr=>∃ k:Nat,k≤5∧i=.int .i64 k∧B2 w g o (eV z) (byN (V%2^(k*51))) wr) (fun i _=>5 - (intOf i).toNat)
 case atStart=>exact ⟨0,by omega,rfl,HST0.out⟩
 case round =>
  clear HST0;obtain ⟨i,hi,rfl,hst⟩:=hrel
  by_cases hlt:i<5
  ·have hlt':(i:Int)<5:=by omega
   obtain ⟨l,hl⟩:=eX ((limbs z).getD i 0);have hll:l<2251799813685248:=by rw [hl]; exact qaN HZL.out (by decide) i
   have hix:∀ u:World,(Instr.index 44 (.agg (eV z)) (.int .i64 (i:Int))).run Tryd.prog u=.ok (.int .u64 (l:Int)) u:=fun u =>
    qaH (n:=5) (e:=43) hu5 hlt (by rw [hl]; exact eV_at z i hlt) (by kernel_rfl) (by kernel_rfl) ⟨_,Tryd.underlying43⟩
   have hst':B2 w g o (eV z) (byN (V%2^(i*51+0))) wr:=hst;have HST:=zY hst';have HL:=zY hl;have HLL:=zY hll;clear hst hst' hl hll;go_wp2_with fail;obtain ⟨wo,rfl⟩:=eX wr
   go_loopw [17] (fun c wr=>∃ k:Nat,k≤51∧c=.int .i64 k∧B2 w g o (eV z) (byN (V%2^(i*51+k))) wr) (fun c _=>51 - (intOf c).toNat)
   case atStart=>exact ⟨0,by omega,rfl,HST.out⟩
   case round =>
    clear HST hix;obtain ⟨k,hk,rfl,hst⟩:=hrel
    by_cases hltk:k<51
    ·have hltk':(k:Int)<51:=by omega
     obtain ⟨n,hn⟩:=eX (i*51+k);have hni:(i:Int)*51+(k:Int)=(n:Int):=by omega
     obtain ⟨q,hq⟩:=eX (n/8);obtain ⟨r,hr⟩:=eX (n%8);have hqi:(n:Int)/8=(q:Int):=by omega
     have hri:(n:Int)%8=(r:Int):=by omega
     have hq32:(q:Int)<32:=by omega
     have hr8:(r:Int)<8:=by omega
     have hstep:=byN_step V n (by omega);have hbit:=val_bit z HZL.out i k n hlt hltk hn.symm;rw [← HV.out,← HL.out] at hbit;rw [← hq,← hr,hbit] at hstep;rw [← hn] at hst;have hcur:=byN_at (V%2^n) q (by omega);obtain ⟨y,hy⟩:=eX (V%2^n/256^q%256);rw [← hy] at hstep hcur;have hyl:y<256:=by rw [hy]; exact Nat.mod_lt _ (by decide)
     obtain ⟨lk,hlk⟩:=eX (l/2^k);rw [← hlk] at hstep;have hlkl:lk<2251799813685248:=by rw [hlk]; exact Nat.lt_of_le_of_lt (Nat.div_le_self _ _) HLL.out
     have hlki:(l:Int)/2^k=(lk:Int):=by rw [hlk,qbA]
     obtain ⟨b,hb⟩:=eX (lk%2);rw [← hb] at hstep;have HLK:=zY hlki;have HLKL:=zY hlkl;have hbl:b<2:=by rw [hb]; exact Nat.mod_lt _ (by decide)
     obtain ⟨LN,hLN⟩:=eX (byN (V%2^n));rw [← hLN] at hstep hcur hst;obtain ⟨LM,hLM⟩:=eX (byN (V%2^(n+1)));rw [← hLM] at hstep;obtain ⟨s,hs⟩:=eX (b*2^r);rw [← hs] at hstep
     have hsl:s<256:=by
      have e1:2^r≤2^7:=Nat.pow_le_pow_right (by decide) (by omega);have e2:b*2^r≤1*2^7:=Nat.mul_le_mul (by omega) e1;rw [hs]; exact Nat.lt_of_le_of_lt e2 (by decide)
     have hsi:(b:Int)*2^r%256=(s:Int):=by
      rw [shl_int,← hs]; omega
     have hor:=or8 (a:=y) (b:=s) hyl hsl;obtain ⟨yn,hyn⟩:=eX (y ||| s);rw [← hyn] at hor hstep;have HOR:=zY hor;have HSI:=zY hsi;have HSTEP:=zY hstep;have HCUR:=zY (bnV_at hcur);have HB:=zY hb;have HBL:=zY hbl;have HYL:=zY hyl;have HLM:=zY hLM;have HN:=zY hn;have HC0:=hst.drew;clear hst hstep hcur hb hbl hyl hLM hLN hy hbit hq hr hn hlk hlki hlkl hs hsl hsi hor hyn;go_wp2_with fail;refine qaj (fun u=>B2 w g o (eV z) LN u) (fun u=>B2 w g o (eV z) LM u) [(0,some 24),(1,some 25),(2,some 26),(3,some 27),(4,some 28),(5,some 29),(6,some 30),(7,some 31),(8,some 32),(9,some 33),(10,some 34),(11,some 35),(12,some 36),(13,some 37),(14,some 38),(15,none)] (by kernel_rfl) (by kernel_rfl) (by decide) (by kernel_rfl) (fun _=>rfl) HC0 ?_;apply yN_
     ·apply dP [];exact fun _=>rfl;rfl;rintro vals - w1 hC1 E hE;simp only [sP] at hE ⊢;go_wp2;exact .mk (hE _ hC1)
     apply yN_
     ·apply dP [];exact fun _=>rfl;rfl;rintro vals ⟨-,-⟩ w1 hC1 E hE;simp only [sP] at hE ⊢;go_wp2;exact .mk (hE _ hC1)
     apply yN_
     ·apply dP [(1,some 25)];exact fun _=>rfl;rfl;intro vals vq w1 hC1 E hE;simp only [sP,vq] at hE ⊢;clear vq;go_wp2;exact .mk (hE _ hC1)
     apply yN_
     ·apply dP [(0,some 24),(2,some 26)];exact fun _=>rfl;rfl;intro vals vq w1 hC1 E hE;simp only [sP,vq] at hE ⊢;clear vq;go_wp2;exact .mk (hE _ hC1)
     apply yN_
     ·apply dP [(3,some 27)];exact fun _=>rfl;rfl;intro vals vq w1 hC1 E hE;have d0:=hC1.out.cell q;rw [HCUR.out] at d0;simp only [sP,vq] at hE ⊢;clear vq;go_wp2;exact .mk (hE _ hC1)
     apply yN_
     ·apply dP [];exact fun _=>rfl;rfl;intro vals vq w1 hC1 E hE;clear vq;simp only [sP] at hE ⊢;go_wp2;exact .mk (hE _ hC1)
     apply yN_
     ·apply dP [];exact fun _=>rfl;rfl;intro vals vq w1 hC1 E hE;clear vq;simp only [sP] at hE ⊢;go_wp2;exact .mk (hE _ hC1)
     apply yN_
     ·apply dP [(5,some 29),(6,some 30)];exact fun _=>rfl;rfl;intro vals vq w1 hC1 E hE;simp only [sP,vq] at hE ⊢;clear vq;go_wp2;rw [HLK.out];exact .mk (hE _ hC1)
     apply yN_
     ·apply dP [(7,some 31)];exact fun _=>rfl;rfl;intro vals vq w1 hC1 E hE;simp only [sP,vq] at hE ⊢;clear vq;go_wp2;rw [and_one lk (by have:=HLKL.out; omega),← HB.out];exact .mk (hE _ hC1)
     apply yN_
     ·apply dP [(8,some 32)];exact fun _=>rfl;rfl;intro vals vq w1 hC1 E hE;have hb8:(b:Int)<256:=by have:=HBL.out; omega
      simp only [sP,vq] at hE ⊢;clear vq;go_wp2;exact .mk (hE _ hC1)
     apply yN_
     ·apply dP [];exact fun _=>rfl;rfl;intro vals vq w1 hC1 E hE;clear vq;simp only [sP] at hE ⊢;go_wp2;exact .mk (hE _ hC1)
     apply yN_
     ·apply dP [(10,some 34)];exact fun _=>rfl;rfl;intro vals vq w1 hC1 E hE;simp only [sP,vq] at hE ⊢;clear vq;go_wp2;exact .mk (hE _ hC1)
     apply yN_
     ·apply dP [(9,some 33),(11,some 35)];exact fun _=>rfl;rfl;intro vals vq w1 hC1 E hE;simp only [sP,vq] at hE ⊢;clear vq;go_wp2;rw [HSI.out];exact .mk (hE _ hC1)
     apply yN_
     ·apply dP [(4,some 28),(12,some 36)];exact fun _=>rfl;rfl;intro vals vq w1 hC1 E hE;simp only [sP,vq] at hE ⊢;clear vq;go_wp2;rw [HOR.out];exact .mk (hE _ hC1)
     apply yN_
     ·apply dP [(0,some 24),(2,some 26),(0,some 24),(1,some 25),(2,some 26),(3,some 27),(4,some 28),(5,some 29),(6,some 30),(7,some 31),(8,some 32),(9,some 33),(10,some 34),(11,some 35),(12,some 36),(13,some 37)];exact fun _=>rfl;rfl;intro vals vq w1 hC1 E hE;simp only [sP,vq] at hE ⊢;clear vq;go_wp2;exact .mk (hE _ hC1)
     apply yL_ (v:=undef)
     ·apply dP [(14,some 38),(13,some 37),(0,some 24),(1,some 25),(2,some 26),(3,some 27),(4,some 28),(5,some 29),(6,some 30),(7,some 31),(8,some 32),(9,some 33),(10,some 34),(11,some 35),(12,some 36),(13,some 37)];exact fun _=>rfl;rfl;intro vals vq w1 hC1 E hE;have d0:=hC1.out.cell q;rw [HCUR.out] at d0;have q0:=hC1.out.free q;simp only [sP,vq] at hE ⊢;clear vq;go_wp2;refine .mk (hE _ (hC1.put (qaf _ _ _ _) ?_));have h:=qag (i:=q) hC1.out (.int .u8 (yn:Int));rw [qbf,HSTEP.out] at h;exact h
     intro vals vq w1 hC1;simp only [sP,vq];clear vq;clear HC0
     have hfin:B2 w g o (eV z) (byN (V%2^(i*51+(k+1)))) w1:=by
      rw [show i*51+(k+1)=n+1 by rw [HN.out]; omega,← HLM.out];exact hC1
     have HFIN:=zY hfin;clear hC1 hfin;go_wp2_with fail;exact ⟨⟨k+1,by omega,by go_num,HFIN.out⟩,by simp [intOf]; omega⟩
    ·obtain rfl:k=51:=by omega
     rw [show i*51+51=(i+1)*51 by omega] at hst;have HST:=zY hst;clear hst;go_wp2_with fail;exact ⟨⟨i+1,by omega,by go_num,HST.out⟩,by simp [intOf]; omega⟩
  ·obtain rfl:i=5:=by omega
   have hmod:V%2^(5*51)=V:=by
    have h:=HZL.out;obtain ⟨h1,h2,h3,h4,h5⟩:=h;rw [HV.out,show (2:Nat)^(5*51)=57896044618658097711785492504343953926634992332820282019728792003956564819968 by decide];apply Nat.mod_eq_of_lt;simp only [E5.val];omega
   rw [hmod] at hst;have HST:=zY hst;clear hst hmod;go_wp2_with fail;go_ret;exact ⟨o,rfl,HST.out.lo,by rw [← HV.out]; exact HST.out.out,HST.out.bel⟩
def pwS (x out:E5) (bit:Nat):E5:=if bit=1 then mulE (mulE out out) x else mulE out out
def pwB (x out:E5) (b:Nat):Nat→E5
 | 0=>out
 | j+1=>pwS x (pwB x out b j) (b/2^(7 - j)%2)
def pwL (x:E5) (l:List Nat):Nat→E5
 | 0=>natE 1
 | j+1=>pwB x (pwL x l j) (l.getD (l.length - 1 - j) 0) 8
theorem pwS_ok {x out:E5} (hx:x.Ok) (ho:out.Ok) (bit:Nat):(pwS x out bit).Ok:=by
 unfold pwS
 split
 ·exact qaq (qaq ho ho) hx
 ·exact qaq ho ho
theorem pwB_ok {x out:E5} (hx:x.Ok) (ho:out.Ok) (b:Nat):∀ j,(pwB x out b j).Ok
 | 0=>ho
 | j+1=>pwS_ok hx (pwB_ok hx ho b j) _
theorem pwL_ok {x:E5} (hx:x.Ok) (l:List Nat):∀ j,(pwL x l j).Ok
 | 0=>natE_ok (by decide)
 | j+1=>pwB_ok hx (pwL_ok hx l j) _ 8
theorem pow_mod_mul (a n m:Nat):a^n%PN*(a^m%PN)%PN=a^(n+m)%PN:=by
 rw [← Nat.mul_mod,Nat.pow_add]
theorem pwS_val {x out:E5} {n bit:Nat} (h:out.val%PN=x.val^n%PN) (hb:bit<2):(pwS x out bit).val%PN=x.val^(2*n+bit)%PN:=by
 have h2:(mulE out out).val%PN=x.val^(2*n)%PN:=by
  rw [mul_val,Nat.mul_mod,h,pow_mod_mul,Nat.two_mul]
 unfold pwS
 split
 ·next e=>rw [mul_val,Nat.mul_mod,h2,e,← Nat.pow_one (x.val),Nat.pow_one,Nat.pow_add,Nat.pow_one,← Nat.mul_mod]
 ·next e =>
  obtain rfl:bit=0:=by omega
  exact h2
theorem pwB_val {x out:E5} {n:Nat} (h:out.val%PN=x.val^n%PN) (b:Nat):∀ j,j≤8→(pwB x out b j).val%PN=x.val^(n*2^j+b%256/2^(8 - j))%PN
 | 0,_=>by
  have e:b%256/2^(8 - 0)=0:=Nat.div_eq_of_lt (Nat.mod_lt _ (by decide));rw [e,Nat.pow_zero,Nat.mul_one,Nat.add_zero];exact h
 | j+1,hj=>by
  have ih:=pwB_val h b j (by omega);have e:=pwS_val (bit:=b/2^(7 - j)%2) ih (Nat.mod_lt _ (by decide));rw [pwB,e]
  congr 2
  have hp:2^(8 - j)=2^(7 - j)*2:=by rw [← Nat.pow_succ]; congr 1; omega
  have h1:b%256/2^(8 - j)=b%256/2^(7 - j)/2:=by rw [hp,Nat.div_div_eq_div_mul]
  have h2:b/2^(7 - j)%2=b%256/2^(7 - j)%2:=by
   obtain ⟨d,hd⟩:∃ d,8=(7 - j)+(1+d):=⟨j,by omega⟩
   have h8:2^(7 - j)*(2*2^d)=256:=by
    have h9:2^((7 - j)+(1+d))=256:=by rw [← hd]
    rw [Nat.pow_add,Nat.pow_add,Nat.pow_one] at h9;exact h9
   obtain ⟨c,hc⟩:=eX (b/256);have e4:2^(7 - j)*(2*(2^d*c))=256*c:=by rw [← h8]; simp only [Nat.mul_assoc]
   have e3:b=b%256+2^(7 - j)*(2*(2^d*c)):=by rw [e4,hc]; exact (Nat.mod_add_div b 256).symm
   conv=>lhs; rw [e3,Nat.add_mul_div_left _ _ (Nat.two_pow_pos _),Nat.add_mul_mod_self_left]
  rw [h1,h2,show 8 - (j+1)=7 - j by omega,Nat.pow_succ]
  have e5:2*(n*2^j+b%256/2^(7 - j)/2)=n*(2^j*2)+2*(b%256/2^(7 - j)/2):=by
   rw [Nat.mul_add,← Nat.mul_assoc n,Nat.mul_comm 2 (n*2^j)]
  rw [e5];omega
def leV:List Nat→Nat
 | []=>0
 | d :: r=>d+256*leV r
theorem pwL_val (x:E5) (l:List Nat) (hl:∀ d ∈ l,d<256):∀ j,j≤l.length→(pwL x l j).val%PN=x.val^leV (l.drop (l.length - j))%PN
 | 0,_=>by
  rw [Nat.sub_zero,List.drop_length,leV,Nat.pow_zero,pwL,natE_val]
 | j+1,hj=>by
  have hlt:l.length - 1 - j<l.length:=by omega
  have hd:l.getD (l.length - 1 - j) 0=l[l.length - 1 - j]:=by rw [List.getD_eq_getElem?_getD,List.getElem?_eq_getElem hlt]; rfl
  have hb:l[l.length - 1 - j]<256:=hl _ (List.getElem_mem hlt);rw [pwL,pwB_val (pwL_val x l hl j (by omega)) _ 8 (Nat.le_refl _),hd,Nat.mod_eq_of_lt hb,show l.length - (j+1)=l.length - 1 - j by omega,List.drop_eq_getElem_cons hlt,leV,show l.length - 1 - j+1=l.length - j by omega]
  congr 2
  rw [show 8 - 8=0 from rfl,Nat.pow_zero,Nat.div_one,show (2:Nat)^8=256 from rfl,Nat.mul_comm];omega
theorem and8_one (l:Nat) (h:l<256):bits .and .u8 (l:Int) 1=((l%2:Nat):Int):=by
 show IntKind.u8.wrap ((BitVec.ofInt 8 (l:Int) &&& BitVec.ofInt 8 (1:Int)).toNat:Int)=_;have e1:(BitVec.ofInt 8 (1:Int)).toNat=1:=by decide
 rw [BitVec.toNat_and,BitVec.ofInt_natCast,BitVec.toNat_ofNat,e1,Nat.mod_eq_of_lt (show l<2^8 from h),IntKind.wrap_u8];have h2:l &&& 1=l%2:=Nat.and_two_pow_sub_one_eq_mod l 1;rw [h2];omega
theorem Rd.atc {w:World} {B k:Nat} {ad:Addr} {xs:List Value} (h:Rd w B (some ad) xs) (hk:k<xs.length):w.cell? (ad.add k)=some xs[k]:=by
 obtain ⟨a2,h1,_,h3⟩:=h.at_ hk
 injection h1 with h1
 rw [h1]; exact h3
theorem pow_any (x:E5) (hx:x.Ok) (l:List UInt8) (A:Option Addr) (c:Nat) (w:World) (hr:Rd w w.heap.size A (bytesV l)) (hc:l.length≤c) (hl:l.length≤1000000) :
  Calls Tryd.prog 63 #[.agg (eV x),.slice A l.length c] w (ElemPost (pwL x ((l.take 64).map UInt8.toNat) (min l.length 64)) w):=by
 have hu:=Tryd.underlying46;have hi1:intE 1=natE 1:=rfl;have hint:=fun u=>int_any 1 (by decide) (by decide) u;rw [hi1] at hint;have HX:=zY hx;have HI:=zY hint;have HR:=zY hr;obtain ⟨n,hn⟩:=eX (l.length);rw [← hn];rw [← hn] at hc hl;have hn63:(n:Int)≤1000000:=by omega
 have HN:=zY hn;clear hx hi1 hint hr hn hc hl;obtain ⟨m,hm⟩:=eX (min n 64);have hmin1:(if (64:Int)<(n:Int) then (64:Int) else (n:Int))=(m:Int):=by rw [hm]; split <;> omega
 have hmin2:(if 64<n then (64:Int) else (n:Int))=(m:Int):=by rw [hm]; split <;> omega
 have hm64:(m:Int)≤64:=by omega
 rw [← hm];have HM:=zY hm;clear hm
 all_goals
  go_enter Tryd.func63,Tryd.ntmps63;go_wp2_with fail;refine qab (HI.out _) ?_;rintro e w2 ⟨rfl,hb2⟩;go_wp2_with (refine qae (x:=.tmp 5) (cells:=eV (natE 1)) (Blk.new w2 _ _) rfl rfl rfl rfl qad rfl (by simp [eV,wV,limbs,Value.oneCell']) ?_; intro w5 hb5 hw5; have HB5:=zY hb5; have HW5:=zY hw5; clear hb5 hw5);have hst0:G2 w w.heap.size (w.heap.size+1) (eV x) (eV zE) _:=g2_new w (eV x) (eV zE);have hst2:=hst0.next hb2
  have hst3:G3 w w.heap.size w2.heap.size (w.heap.size+1) (eV x) (eV (natE 1)) (eV zE) w5 :=
   ⟨HW5.out.below (hst2.bel.alloc hst2.bel.size _) hst2.bel.size (by simp; have:=hst2.bel.size; omega),HW5.out.blk (hst2.x.alloc _) (Nat.ne_of_lt hst2.x.lt),HB5.out,HW5.out.blk (hst2.z.alloc _) (Nat.ne_of_lt hst2.z.lt),hst2.lg,hst2.bel.size,hst2.lr,Nat.ne_of_lt hst2.x.lt,hst2.gr,Ne.symm (Nat.ne_of_lt hst2.z.lt)⟩
  have HST:=zY hst3;clear hst0 hst2 hst3 HB5 HW5 hb2;generalize hL:(l.take 64).map UInt8.toNat=L at *;generalize hg:w.heap.size=g at *;generalize ho:w2.heap.size=o at *;generalize hrr:g+1=r at *;have HL:=zY hL;clear hL hmin1 hmin2;have HHG:=zY hg;have HHR:=zY hrr;have HHO:=zY ho;clear hg ho hrr
  go_loopw [6] (fun i wr=>∃ j:Nat,j≤m∧i=.int .i64 ((m:Int) - 1 - (j:Int))∧G3 w g o r (eV x) (eV (pwL x L j)) (eV zE) wr) (fun i _=>(intOf i+1).toNat)
  case atStart=>exact ⟨0,Nat.zero_le _,by go_num,HST.out⟩
  case round =>
   clear HST;obtain ⟨j,hj,rfl,hst⟩:=hrel
   by_cases hlt:j<m
   ·obtain ⟨p,hp⟩:∃ p,p+1+j=m:=⟨m - 1 - j,by omega⟩;have hpi:(m:Int) - 1 - (j:Int)=(p:Int):=by omega
    rw [hpi];obtain ⟨cur,hcur⟩:=eX (pwL x L j);rw [← hcur] at hst;obtain ⟨b,hb⟩:=eX (L.getD p 0);have hst':G3 w g o r (eV x) (eV (pwB x cur b 0)) (eV zE) wr:=hst;have hcok:cur.Ok:=by rw [hcur]; exact pwL_ok HX.out L j
    have HST:=zY hst';have HCUR:=zY hcur;have HCOK:=zY hcok;have HB:=zY hb;clear hst hst' hcur hcok hb hpi;go_wp2_with fail;obtain ⟨wo,rfl⟩:=eX wr
    go_loopw [7] (fun c wr=>∃ k:Nat,k≤8∧c=.int .i64 (7 - (k:Int))∧G3 w g o r (eV x) (eV (pwB x cur b k)) (eV zE) wr) (fun c _=>(intOf c+1).toNat)
    case atStart=>exact ⟨0,by omega,rfl,HST.out⟩
    case round =>
     clear HST;obtain ⟨k,hk,rfl,hst⟩:=hrel
     by_cases hltk:k<8
     ·obtain ⟨q,hq⟩:∃ q,q+k=7:=⟨7 - k,by omega⟩;have hqi:(7:Int) - (k:Int)=(q:Int):=by omega
      have hq8:(q:Int)<8:=by omega
      have hbit:pwB x cur b (k+1)=pwS x (pwB x cur b k) (b/2^q%2):=by rw [pwB,show 7 - k=q by omega]
      obtain ⟨y,hy⟩:=eX (pwB x cur b k);have hyok:y.Ok:=by rw [hy]; exact pwB_ok HX.out HCOK.out b k
      rw [← hy] at hst hbit;rw [hqi];have hpl:p<l.length:=by have:=HM.out; have:=HN.out; omega
      have hp64:p<64:=by omega
      have hbel:=hst.bel;rw [HHG.out] at hbel;have hrd:=HR.out.below hbel;obtain ⟨ad,rfl,hadl,hcell⟩:=hrd.at_ (k:=p) (by rw [qam]; exact hpl)
      have hbv:(bytesV l)[p]'(by rw [qam]; exact hpl)=.int .u8 (b:Int):=by
       have e1:b=l[p].toNat:=by
        rw [HB.out,← HL.out];simp [List.getD_eq_getElem?_getD,List.getElem?_take,hp64,hpl]
       rw [e1];simp [bytesV,byteV]
      have hb256:b<256:=by
       have e1:b=l[p].toNat:=by
        rw [HB.out,← HL.out];simp [List.getD_eq_getElem?_getD,List.getElem?_take,hp64,hpl]
       rw [e1]; exact l[p].toNat_lt
      obtain ⟨bq,hbq⟩:=eX (b/2^q);have hbqi:(b:Int)/2^q=(bq:Int):=by rw [hbq,qbA]
      have hbql:bq<256:=by rw [hbq]; exact Nat.lt_of_le_of_lt (Nat.div_le_self _ _) hb256
      rw [← hbq] at hbit;have hand:=and8_one bq hbql;obtain ⟨c,hc⟩:=eX (bq%2);rw [← hc] at hbit hand;have hpn:(p:Int)<(n:Int):=by have:=HN.out; omega
      have HCELL:=zY (hcell.trans (congrArg some hbv));have HBIT:=zY hbit;have HAND:=zY hand;have HYOK:=zY hyok;have HBQI:=zY hbqi;have HQ:=zY hq;have HP:=zY hp;have HHB:=zY hb256;have hc2:c<2:=by rw [hc]; exact Nat.mod_lt _ (by decide)
      have HHC:=zY hc2;have HK:=zY hk;have HJ:=zY hj;have hm0:(m:Int)≤(n:Int):=by have:=HM.out; omega
      clear hrd hcell hbv hbit hand hyok hbqi hb256 hbel hbql hc hbq hc2 hy
      have hbv2:(bytesV l)[p]'(by rw [qam]; exact hpl)=.int .u8 (b:Int):=by
       have e1:b=l[p].toNat:=by
        rw [HB.out,← HL.out];simp [List.getD_eq_getElem?_getD,List.getElem?_take,hp64,hpl]
       rw [e1];simp [bytesV,byteV]
      have HST:=zY hst;have HBV:=zY hbv2;clear hst hbv2 HCELL
      rcases Nat.lt_or_ge c 1 with hc1 | hc1
      ·have hcc:c=0:=by omega
       rw [hcc] at HAND HBIT;have hand2:bits .and .u8 ((b:Int)/2^q) 1=0:=by rw [HBQI.out]; exact HAND.out
       go_wp2_with (refine qac (x:=.tmp 5) HST.out.y rfl rfl rfl hu rfl qad ?_);refine qab (mul_any y y _ HYOK.out HYOK.out) ?_;rintro e w3 ⟨rfl,hb3⟩;have hst3:=HST.out.next hb3;clear HST;go_wp2_with (refine qae (x:=.tmp 5) (cells:=eV (mulE y y)) hst3.y rfl rfl rfl rfl qad rfl (by simp [eV,wV,limbs,Value.oneCell']) ?_; intro w6 hb6 hw6; have hst6:=hst3.putY hw6 hb6; have hcell6:=((HR.out.below (show Below g w w6 by have h:=hst6.bel; rw [HHG.out] at h; exact h)).atc (k:=p) (by rw [qam]; exact hpl)).trans (congrArg some HBV.out); have HST6:=zY hst6; clear hst3 hst6 hb6 hw6);have hq1:(q:Int) - 1=7 - ((k+1:Nat):Int):=by have:=HQ.out; omega
       refine ⟨⟨k+1,by have:=HK.out; have:=HQ.out; omega,by rw [hq1],?_⟩,by simp [intOf]⟩;rw [HBIT.out];exact HST6.out
      ·have hcc:c=1:=by have:=HHC.out; omega
       rw [hcc] at HAND HBIT;have hand2:bits .and .u8 ((b:Int)/2^q) 1=1:=by rw [HBQI.out]; exact HAND.out
       go_wp2_with (refine qac (x:=.tmp 5) HST.out.y rfl rfl rfl hu rfl qad ?_);refine qab (mul_any y y _ HYOK.out HYOK.out) ?_;rintro e w3 ⟨rfl,hb3⟩;have hst3:=HST.out.next hb3;clear HST
       go_wp2_with (first
        | (refine qae (x:=.tmp 5) (cells:=eV (mulE y y)) hst3.y rfl rfl rfl rfl qad rfl (by simp [eV,wV,limbs,Value.oneCell']) ?_; intro w6 hb6 hw6; have hst6:=hst3.putY hw6 hb6; have hcell6:=((HR.out.below (show Below g w w6 by have h:=hst6.bel; rw [HHG.out] at h; exact h)).atc (k:=p) (by rw [qam]; exact hpl)).trans (congrArg some HBV.out); have HST6:=zY hst6; clear hst3 hst6 hb6 hw6)
        | (refine qac (x:=.tmp 5) HST6.out.y rfl rfl rfl hu rfl qad ?_)
        | (refine qac (x:=.tmp 2) HST6.out.x rfl rfl rfl hu rfl qad ?_))
       refine qab (mul_any (mulE y y) x _ (qaq HYOK.out HYOK.out) HX.out) ?_;rintro e w7 ⟨rfl,hb7⟩;have hst7:=HST6.out.next hb7;go_wp2_with (refine qae (x:=.tmp 5) (cells:=eV (mulE (mulE y y) x)) hst7.y rfl rfl rfl rfl qad rfl (by simp [eV,wV,limbs,Value.oneCell']) ?_; intro w8 hb8 hw8; have hst8:=hst7.putY hw8 hb8; have HST8:=zY hst8; clear hst7 hst8 hb8 hw8);have hq1:(q:Int) - 1=7 - ((k+1:Nat):Int):=by have:=HQ.out; omega
       refine ⟨⟨k+1,by have:=HK.out; have:=HQ.out; omega,by rw [hq1],?_⟩,by simp [intOf]⟩;rw [HBIT.out];exact HST8.out
     ·obtain rfl:k=8:=by omega
      have hend:pwB x cur b 8=pwL x L (j+1):=by
       have e1:L.length=m:=by rw [← HL.out,List.length_map,List.length_take,HM.out,HN.out]; omega
       rw [pwL,← HCUR.out,HB.out,e1,show m - 1 - j=p by omega]
      rw [hend] at hst;have HST:=zY hst;clear hst hend;go_wp2_with fail;exact ⟨⟨j+1,by omega,by go_num,HST.out⟩,by simp [intOf]⟩
   ·obtain rfl:j=m:=by omega
    have hpi:(j:Int) - 1 - (j:Int)=-1:=by omega
    rw [hpi];have HST:=zY hst;clear hst
    go_wp2_with (first
     | (refine qac (x:=.tmp 5) HST.out.y rfl rfl rfl hu rfl qad ?_)
     | (refine qae (x:=.tmp 4) (cells:=eV (pwL x L j)) HST.out.z rfl rfl rfl rfl qad rfl (by simp [eV,wV,limbs,Value.oneCell']) ?_; intro w6 hb6 hw6))
    refine bodyPost_ret (qap (P:=Tryd.prog) rfl rfl hb6 hu rfl qad) rfl ⟨rfl,?_⟩;exact hw6.below HST.out.bel HST.out.lr HST.out.bel.size
structure I3 (w0:World) (g r o:Nat) (x z:Array Value) (l:List Nat) (u:World):Prop where
 bel:Below w0.heap.size w0 u
 x:Blk u g 46 x
 z:Blk u r 46 z
 out:Blk u o 5 (bnV l).toArray
 lg:w0.heap.size≤g
 lr:w0.heap.size≤r
 lo:w0.heap.size≤o
 go:g≠o
 ro:r≠o
theorem I3.put {w0 u u':World} {g r o:Nat} {x z:Array Value} {l l':List Nat} (k:I3 w0 g r o x z l u) (hw:Wrote o u u') (hb:Blk u' o 5 (bnV l').toArray):I3 w0 g r o x z l' u' :=
 ⟨hw.below k.bel k.lo k.bel.size,hw.blk k.x k.go,hw.blk k.z k.ro,hb,k.lg,k.lr,k.lo,k.go,k.ro⟩
theorem I3.next {w0 u u':World} {g r o:Nat} {x z:Array Value} {l:List Nat} (k:I3 w0 g r o x z l u) (hb:Below u.heap.size u u'):I3 w0 g r o x z l u' :=
 ⟨k.bel.trans (hb.mono k.bel.size),k.x.below hb k.x.lt,k.z.below hb k.z.lt,k.out.below hb k.out.lt,k.lg,k.lr,k.lo,k.go,k.ro⟩
theorem i3_new (w:World) (x z:Array Value) (l:List Nat):I3 w w.heap.size (w.heap.size+1) (w.heap.size+1+1) x z l (((w.alloc (.cells x 46)).alloc (.cells z 46)).alloc (.cells (bnV l).toArray 5)) :=
 ⟨((below_new _ _).alloc (by simp) _).alloc (by simp; try omega) _,((Blk.new _ _ _).alloc _).alloc _,(Blk.newAt (by simp)).alloc _,Blk.newAt (by simp),Nat.le_refl _,by omega,by omega,by omega,by omega⟩
def fillL (k:Nat):List Nat:=List.replicate k 255++List.replicate (32 - k) 0
theorem fill_set:∀ k,k<32→(fillL k).set k 255=fillL (k+1):=by decide
theorem qbQ:∀ k,k<33→(fillL k).length=32:=by decide
def invL:List Nat:=235 :: (List.replicate 30 255++[127])
theorem fill_end:((fillL 32).set 0 235).set 31 127=invL:=by decide
def invB:List UInt8:=invL.map UInt8.ofNat
theorem invB_v:bytesV invB=bnV invL:=by rfl
theorem invB_l:(invB.take 64).map UInt8.toNat=invL:=by decide
theorem invB_len:invB.length=32:=by decide
def invE (x:E5):E5:=pwL x invL 32
theorem inv_any (x:E5) (hx:x.Ok) (w:World):Calls Tryd.prog 54 #[.agg (eV x)] w (ElemPost (invE x) w):=by
 have hu:=Tryd.underlying46;have hmk:∀ u:World,(Instr.makeSlice 22 (.int .i64 32) (.int .i64 32)).run Tryd.prog u=.ok (.slice (some ⟨u.heap.size,0,none⟩) 32 32) (u.alloc (.cells (bnV (fillL 0)).toArray 5)):=fun _=>by kernel_rfl
 have HX:=zY hx;have hst0:=i3_new w (eV x) (eV zE) (fillL 0);have HST0:=zY hst0;clear hx hst0;go_enter Tryd.func54,Tryd.ntmps54;go_wp2_with fail;generalize ho:w.heap.size+1+1=o at *;generalize hr:w.heap.size+1=r at *;generalize hg:w.heap.size=g at *;have HHO:=zY ho;have HHR:=zY hr;have HHG:=zY hg;clear ho hr hg
 go_loopw [8] (fun i wr=>∃ k:Nat,k≤32∧i=.int .i64 k∧I3 w g r o (eV x) (eV zE) (fillL k) wr) (fun i _=>32 - (intOf i).toNat)
 case atStart=>exact ⟨0,by omega,rfl,HST0.out⟩
 case round =>
  clear HST0;obtain ⟨k,hk,rfl,hst⟩:=hrel
  by_cases hlt:k<32
  ·have hlt':(k:Int)<32:=by omega
   have HST:=zY hst;clear hst;go_wp2_with (refine qao (x:=.tmp 13) (i:=k) (v:=.int .u8 255) HST.out.out rfl rfl rfl rfl (by kernel_rfl) (by rw [List.size_toArray,bnV,List.length_map,qbQ k (by omega)]; exact hlt) rfl ?_; intro w5 hb5 hw5; have hst5:=HST.out.put (l':=fillL (k+1)) hw5 (by rw [show (Value.int IntKind.u8 255)=.int .u8 ((255:Nat):Int) from rfl,qbf,fill_set k hlt] at hb5; exact hb5); have HST5:=zY hst5; clear hst5 hb5 hw5);exact ⟨⟨k+1,by omega,by go_num,HST5.out⟩,by simp [intOf]; omega⟩
  ·obtain rfl:k=32:=by omega
   have HST:=zY hst;clear hst
   go_wp2_with (first
    | (refine qao (x:=.tmp 17) (i:=0) (v:=.int .u8 235) HST.out.out rfl rfl rfl rfl (by kernel_rfl) (by rw [List.size_toArray,bnV,List.length_map,qbQ 32 (by omega)]; decide) rfl ?_; intro w5 hb5 hw5; have hst5:=HST.out.put (l':=(fillL 32).set 0 235) hw5 (by rw [show (Value.int IntKind.u8 235)=.int .u8 ((235:Nat):Int) from rfl,qbf] at hb5; exact hb5); have HST5:=zY hst5; clear hst5 hb5 hw5)
    | (refine qao (x:=.tmp 18) (i:=31) (v:=.int .u8 127) HST5.out.out rfl rfl rfl rfl (by kernel_rfl) (by rw [List.size_toArray,bnV,List.length_map,List.length_set,qbQ 32 (by omega)]; decide) rfl ?_; intro w6 hb6 hw6; have hst6:=HST5.out.put (l':=invL) hw6 (by rw [show (Value.int IntKind.u8 127)=.int .u8 ((127:Nat):Int) from rfl,qbf,fill_end] at hb6; exact hb6); have HST6:=zY hst6; clear hst6 hb6 hw6)
    | (refine qac (x:=.tmp 1) HST6.out.x rfl rfl rfl hu rfl qad ?_))
   have hrd:Rd w6 w6.heap.size (some ⟨o,0,none⟩) (bytesV invB):=by
    rw [invB_v];exact Rd.of_blk HST6.out.out HST6.out.out.lt
   have hp:=pow_any x HX.out invB (some ⟨o,0,none⟩) 32 w6 hrd (by rw [invB_len]; omega) (by rw [invB_len]; omega);rw [invB_l,invB_len] at hp;refine qab hp ?_;rintro e w7 ⟨rfl,hb7⟩;have hst7:=HST6.out.next hb7;have HST7:=zY hst7;clear hst7;rw [show min 32 64=32 from rfl];go_wp2_with (refine qae (x:=.tmp 2) (cells:=eV (pwL x invL 32)) HST7.out.z rfl rfl rfl rfl qad rfl (by simp [eV,wV,limbs,Value.oneCell']) ?_; intro w8 hb8 hw8);refine bodyPost_ret (qap (P:=Tryd.prog) rfl rfl hb8 hu rfl qad) rfl ⟨rfl,?_⟩;exact hw8.below HST7.out.bel HST7.out.lr HST7.out.bel.size
def digs (l:List UInt8):List Nat:=l.map UInt8.toNat
theorem qbn (l:List UInt8):∀ d ∈ digs l,d<256:=fun d h=>by
 obtain ⟨b,_,rfl⟩:=List.mem_map.1 h;exact b.toNat_lt
theorem leV_lt:∀ (l:List Nat),(∀ d ∈ l,d<256)→leV l<256^l.length
 | [],_=>by decide
 | d :: r,h=>by
  have h1:=leV_lt r fun x hx=>h x (List.mem_cons_of_mem _ hx);have h2:=h d List.mem_cons_self;rw [leV,List.length_cons,Nat.pow_succ];omega
theorem leV_at:∀ (l:List Nat),(∀ d ∈ l,d<256)→∀ j,leV l/256^j%256=l.getD j 0
 | [],_,j=>by rw [leV,Nat.zero_div]; rfl
 | d :: r,h,0=>by
  have h2:=h d List.mem_cons_self;rw [leV,Nat.pow_zero,Nat.div_one,List.getD_cons_zero];omega
 | d :: r,h,j+1=>by
  have h1:=leV_at r (fun x hx=>h x (List.mem_cons_of_mem _ hx)) j;have h2:=h d List.mem_cons_self;rw [leV,Nat.pow_succ,Nat.mul_comm (256^j),← Nat.div_div_eq_div_mul,show (d+256*leV r)/256=leV r by omega,h1,List.getD_cons_succ]
theorem leV_replicate (n:Nat):leV (List.replicate n 0)=0:=by
 induction n with
 | zero=>rfl
 | succ n ih=>rw [List.replicate_succ,leV,ih]
theorem qbP:∀ (l r:List Nat),leV (l++r)=leV l+256^l.length*leV r
 | [],r=>by simp [leV]
 | d :: l,r=>by
  rw [List.cons_append,leV,qbP l r,leV,List.length_cons,Nat.pow_succ]
  grind
theorem byN_leV (l:List Nat) (h:∀ d ∈ l,d<256) (hl:l.length=32):byN (leV l)=l:=by
 apply List.ext_getElem?;intro j
 by_cases hj:j<32
 ·rw [byN_at _ _ hj,leV_at l h j,List.getD_eq_getElem?_getD,List.getElem?_eq_getElem (by omega)];rfl
 ·rw [List.getElem?_eq_none (by rw [qaO]; omega),List.getElem?_eq_none (by omega)]
theorem byN_lt (N:Nat):∀ d ∈ byN N,d<256:=fun d h=>by
 obtain ⟨j,_,rfl⟩:=List.mem_map.1 h;exact Nat.mod_lt _ (by decide)
theorem leV_ext:∀ (l r:List Nat),l.length=r.length→(∀ d ∈ l,d<256)→(∀ d ∈ r,d<256)→leV l=leV r→l=r
 | [],[],_,_,_,_=>rfl
 | [],_ :: _,h,_,_,_=>by simp at h
 | _ :: _,[],h,_,_,_=>by simp at h
 | c :: l,d :: r,h,h1,h2,e=>by
  have a1:=h1 c List.mem_cons_self;have a2:=h2 d List.mem_cons_self;rw [leV,leV] at e;rw [leV_ext l r (by simpa using h) (fun x hx=>h1 x (List.mem_cons_of_mem _ hx)) (fun x hx=>h2 x (List.mem_cons_of_mem _ hx)) (by omega),show c=d by omega]
theorem leV_mod:∀ (n N:Nat),leV ((List.range n).map fun j=>N/256^j%256)=N%256^n
 | 0,N=>by rw [Nat.pow_zero,Nat.mod_one]; rfl
 | n+1,N=>by
  rw [List.range_succ_eq_map,List.map_cons,List.map_map,leV]
  have e:((fun j=>N/256^j%256) ∘ Nat.succ)=fun j=>N/256/256^j%256:=by
   funext j
   show N/256^(j+1)%256=_;rw [Nat.pow_succ,Nat.mul_comm,← Nat.div_div_eq_div_mul]
  rw [e,leV_mod n (N/256),Nat.pow_zero,Nat.div_one,Nat.pow_succ,Nat.mul_comm (256^n),Nat.mod_mul]
theorem leV_byN (N:Nat) (h:N<256^32):leV (byN N)=N:=by
 rw [byN,leV_mod,Nat.mod_eq_of_lt h]
def byB (N:Nat):List UInt8:=(byN N).map UInt8.ofNat
theorem qbR (l:List Nat) (h:∀ d ∈ l,d<256):digs (l.map UInt8.ofNat)=l:=by
 rw [digs,List.map_map]
 conv=>rhs; rw [← List.map_id l]
 apply List.map_congr_left;intro d hd;show (UInt8.ofNat d).toNat=d;rw [UInt8.toNat_ofNat'];exact Nat.mod_eq_of_lt (h d hd)
theorem qcG (N:Nat):digs (byB N)=byN N:=qbR _ (byN_lt N)
theorem qcH (l:List UInt8):bnV (digs l)=bytesV l:=by
 rw [bnV,digs,List.map_map]; rfl
theorem bnV_byB (N:Nat):bnV (byN N)=bytesV (byB N):=by rw [← qcH,qcG]
theorem qaU (N:Nat):(byB N).length=32:=by rw [byB,List.length_map,qaO]
theorem digs_inj {l r:List UInt8} (h:digs l=digs r):l=r:=by
 have e:∀ l:List UInt8,(digs l).map UInt8.ofNat=l:=fun l=>by
  rw [digs,List.map_map]
  conv=>rhs; rw [← List.map_id l]
  exact List.map_congr_left fun b _=>by simp
 rw [← e l,← e r,h]
theorem byB_digs (l:List UInt8) (h:l.length=32):byB (leV (digs l))=l:=by
 apply digs_inj;rw [qcG,byN_leV _ (qbn l) (by rw [digs,List.length_map,h])]
def ofN (N:Nat):E5:=⟨N%2251799813685248,N/2^51%2251799813685248,N/2^102%2251799813685248,N/2^153%2251799813685248,N/2^204%2251799813685248⟩
theorem ofN_at (N k:Nat) (h:k<5):(limbs (ofN N)).getD k 0=N/2^(51*k)%2251799813685248:=by
 match k,h with
 | 0,_=>show N%2251799813685248=_; rw [Nat.mul_zero,Nat.pow_zero,Nat.div_one]
 | 1,_=>rfl
 | 2,_=>rfl
 | 3,_=>rfl
 | 4,_=>rfl
theorem ofN_lt (N:Nat):(ofN N).Lt 2251799813685248:=by
 constructor <;> exact Nat.mod_lt _ (by decide)
theorem ofN_ok (N:Nat):(ofN N).Ok:=(ofN_lt N).mono (by decide)
theorem ofN_val (N:Nat):(ofN N).val=N%2^255:=by
 simp only [ofN,E5.val];rw [show (2:Nat)^51=2251799813685248 by decide,show (2:Nat)^102=5070602400912917605986812821504 by decide,show (2:Nat)^153=11417981541647679048466287755595961091061972992 by decide,show (2:Nat)^204=25711008708143844408671393477458601640355247900524685364822016 by decide,show (2:Nat)^255=57896044618658097711785492504343953926634992332820282019728792003956564819968 by decide];omega
def winN (N q k:Nat):Nat:=N/256^q%256^k
theorem win_zero (N q:Nat):winN N q 0=0:=by rw [winN,Nat.pow_zero,Nat.mod_one]
theorem win_lt (N q k:Nat) (h:k≤8):winN N q k<18446744073709551616:=by
 have h1:winN N q k<256^k:=Nat.mod_lt _ (Nat.pow_pos (by decide));have h2:256^k≤256^8:=Nat.pow_le_pow_right (by decide) h;exact Nat.lt_of_lt_of_le h1 h2
theorem win_step (N q k:Nat):winN N q k ||| N/256^(q+k)%256*2^(8*k)=winN N q (k+1):=by
 have h1:winN N q k<2^(8*k):=by rw [← pow256]; exact Nat.mod_lt _ (Nat.pow_pos (by decide))
 have h:=Nat.shiftLeft_add_eq_or_of_lt h1 (N/256^(q+k)%256);rw [Nat.shiftLeft_eq] at h;rw [Nat.or_comm,← h,winN,winN,Nat.pow_succ,Nat.mod_mul,Nat.pow_add,← Nat.div_div_eq_div_mul,← pow256,Nat.mul_comm,Nat.add_comm]
theorem win_over (N q k:Nat) (hN:N<256^32) (h:32≤q+k):winN N q (k+1)=winN N q k:=by
 rw [← win_step];have e:N/256^(q+k)=0:=Nat.div_eq_of_lt (Nat.lt_of_lt_of_le hN (Nat.pow_le_pow_right (by decide) h));rw [e,Nat.zero_mod,Nat.zero_mul,Nat.or_zero]
theorem win_limb (N n:Nat):winN N (n/8) 8/2^(n%8)%2251799813685248=N/2^n%2251799813685248:=by
 obtain ⟨q,r,hr,rfl⟩:∃ q r,r<8∧n=8*q+r:=⟨n/8,n%8,by omega,by omega⟩;rw [show (8*q+r)/8=q by omega,show (8*q+r)%8=r by omega,winN,pow256,pow256,Nat.pow_add,← Nat.div_div_eq_div_mul];obtain ⟨M,hM⟩:=eX (N/2^(8*q));obtain ⟨d,hd⟩:∃ d,8*8=r+(51+d):=⟨13 - r,by omega⟩;rw [← hM,hd,Nat.pow_add,Nat.mod_mul_right_div_self,show (2251799813685248:Nat)=2^51 from rfl,Nat.pow_add,Nat.mod_mul_right_mod]
def mayR (l:List UInt8):Bool:=decide (l.length=32∧leV (digs l)<PN)
def readE (l:List UInt8):E5:=if mayR l then ofN (leV (digs l)) else zE
def readF (l:List UInt8):Int:=if mayR l then 0 else 2
theorem read_same (l:List UInt8) (h:l.length=32):(byB (leastE (ofN (leV (digs l)))).val=l)=(leV (digs l)<PN):=by
 have hN:=leV_lt (digs l) (qbn l);rw [show (digs l).length=32 by rw [digs,List.length_map,h]] at hN
 have hv:(leastE (ofN (leV (digs l)))).val=leV (digs l)%2^255%PN:=by
  rw [qbE ((ofN_lt _).mono (by decide)),ofN_val]
 rw [hv];have hP:PN<2^255:=by decide
 have hP0:0<PN:=by decide
 have hP2:PN<256^32:=by decide
 apply propext
 constructor
 ·intro h1;have h2:=congrArg (fun x=>leV (digs x)) h1;have hlt:leV (digs l)%2^255%PN<PN:=Nat.mod_lt _ hP0;rw [qcG,leV_byN _ (Nat.lt_trans hlt hP2)] at h2;rw [← h2]; exact hlt
 ·intro h1;rw [Nat.mod_eq_of_lt (Nat.lt_trans h1 hP),Nat.mod_eq_of_lt h1,byB_digs l h]
section
variable {P:Program}
theorem run_str_of {w:World} {B:Nat} {src dst e:TypeId} (hs:P.underlying src=some (.slice e)) (he:P.underlying e=some (.int .u8)) (hd:P.underlying dst=some .string)
  {A:Option Addr} {l:List UInt8} (hr:Rd w B A (bytesV l)) (c:Nat):(convert src dst (.slice A l.length c)).run P w=.ok (.string ⟨l.toArray⟩) w:=by
 cases A with
 | none =>
  have hl:l=[]:=by
   cases l with
   | nil=>rfl
   | cons x r =>
    obtain ⟨ad,h,_⟩:=hr 0 (byteV x) (by simp [bytesV])
    cases h
  subst hl;rw [run_convert_bytes_nil w src e hs he _ c dst hd];rfl
 | some ad =>
  have hl:(loadCells ad l.length).run P w=.ok ((l.map fun b=>(b.toNat:Int)).map (Value.int .u8)).toArray w:=by
   have:=run_loadCells_list (P:=P) w ad ((l.map fun b=>(b.toNat:Int)).map (Value.int .u8)) (fun j v hj=>by
    obtain ⟨ad',h,_,hc⟩:=hr j v (by rw [← hj]; simp [bytesV,byteV]; rfl)
    injection h with h
    subst h;exact hc)
   simpa using this
  rw [run_convert_bytes_string w src dst e _ l.length c hs he hd,run_bytesToString w _ l.length c (l.map fun b=>(b.toNat:Int)) hl,foldl_push_bytes]
  have e1:((l.map fun b=>(b.toNat:Int)).map fun n=>UInt8.ofNat n.toNat)=l:=by
   rw [List.map_map]
   conv=>rhs; rw [← List.map_id l]
   exact List.map_congr_left fun b _=>by simp
  rw [e1];simp [ByteArray.empty,ByteArray.emptyWithCapacity];rfl
theorem qaw {w:World} {ops:Array Oper} {rest:List Oper} {o:Oper} {a:Act} {Q:Exit→Act→World→Prop} {B:Nat} {src dst e:TypeId} {x:Operand} {A:Option Addr} {l:List UInt8} {c:Nat}
  (hr:Rd w B A (bytesV l)) (hs:P.underlying src=some (.slice e)) (he:P.underlying e=some (.int .u8)) (hd:P.underlying dst=some .string)
  (hgd:o.guard=none) (ho:o.op=.convert src dst x) (hx:a.eval x=.slice A l.length c)
  (h:wpList P ops Q rest (a.put o.dst (.string ⟨l.toArray⟩)) w):wpList P ops Q (o :: rest) a w:=by
 refine wpList_plain hgd fun K hK=>?_;have hrun:=run_str_of (P:=P) hs he hd hr c;unfold Oper.wp execOp;simp only [ho,hx];simp only [Sem.run_bind,hrun,Result.andThen_ok,Sem.run_pure];exact hK _ _ h
end
end Go.Proofs.YtjmfkinedhmglaaDoor
