/-
  Joined texts: Sqa Base Laws Box Part Region Guard Det Tail Tailb Sqz Open OpenB Words ShaM ShaX Laid Lai3 Rwz Jsp Jsr Js1 Grd Js2 Js3 Jse Rj1 Rj2 Rj3 Mp8 Js5 Js6 Bld Conv Js7 Seq.
-/
import Derived.Lib.Hide
import Derived.WalkKit
import Derived.WalkSpells
import Derived.WalkLawsBesides
import Derived.Lib.Strings
import Derived.Maps.AppendAt
import Derived.Deep.Draws
import Derived.Lib.AppendStr
import Derived.Laws.Rows
import Derived.Laws.Tables
import Derived.Lib.SmallJoins
import Derived.Laws.CopyRow
import Derived.Laws.Unary
import Derived.Laws.Bits64
import Derived.Laws.BitsLemmas
import Derived.Orders
import Derived.Test.YtlkikjeccamheaaGreatDoorRows
import Derived.ProofKit
import Derived.OpenShut
import Derived.SizedLaws
import Derived.SliceStrings
import Derived.LaidMore
import Derived.Stop.Joined
import Derived.Lay
import Derived.Test.YtlkikjeccamheaaGreatDoorProg
import Derived.Lib.Bytealg
import Derived.Lib.Slices
import Derived.Laws.Externs
import Derived.Deep.QuietTactic
import Derived.BigQuiet
import Derived.Deep.DeepCutAuto
import Derived.Deep.LoopGhost
import Derived.Lib.Walk
import Derived.MapKept
import Derived.Carry
import Derived.Lib.Builder
import Derived.Lib.UnsafeStr
import Derived.Shelf.RegionOpenPlain
import Derived.Laws.BytesArg
import Derived.Laws.IdiomStrings
namespace Go.Proofs.YtlkikjeccamheaaGreatDoor
set_option linter.unusedSimpArgs false
set_option linter.unusedVariables false
open Go.RowKit
theorem zY {p : Prop} (h : p) : Hid p := Lib.hid h
theorem eX {α : Sort _} (a : α) : ∃ x, x = a := ⟨a, rfl⟩
end Go.Proofs.YtlkikjeccamheaaGreatDoor
namespace Go.Proofs.YtlkikjeccamheaaGreatDoor
set_option linter.unusedSimpArgs false
set_option linter.unusedVariables false
set_option maxRecDepth 100000
set_option maxHeartbeats 4000000
open Go.RowKit
def byteV (b:UInt8):Value:=.int .u8 (b.toNat:Int)
def bytesV (l:List UInt8):List Value:=l.map byteV
theorem qaD (l r:List UInt8):bytesV (l++r)=bytesV l++bytesV r:=by simp [bytesV]
theorem qan (l:List UInt8):(bytesV l).length=l.length:=by simp [bytesV]
theorem ret_bool {a b:Bool} (h:a=b):Ending.returned (.bool a)=.returned (.bool b):=by rw [h]
theorem qaa {P:Program} {f:FuncId} {args:Array Value} {w:World} {R K:Ending→World→Prop} (h:Calls P f args w R) (hk:∀ e w',R e w'→K e w'):Calls P f args w K:=h.mono hk
structure SlT (P:Program) (t e:TypeId) (size bytes:Nat):Prop where
 und:P.underlying t=some (.slice e)
 info:∃ i z,P.info? e=some i∧i.zero=some z∧i.size=size∧i.bytes=bytes∧z.cells.size=size
 pos:0<size
theorem SlT.mk1 {P:Program} {t e:TypeId} {z:Value} {size bytes:Nat} (hu:P.underlying t=some (.slice e)) (h:(P.info? e).map (fun i=>(i.zero,i.size,i.bytes))=some (some z,size,bytes))
  (hz:z.cells.size=size) (hp:0<size):SlT P t e size bytes:=by
 obtain ⟨i,hi,h0,h1,h2⟩:=info_parts h;exact ⟨hu,⟨i,z,hi,h0,h1,h2,hz⟩,hp⟩
def Next (w:World) (v v':Value):Prop:=v'.ownBlock=v.ownBlock∨∀ k,v'.ownBlock=some k→w.heap.size≤k
theorem Next.refl (w:World) (v:Value):Next w v v:=.inl rfl
theorem Next.trans {w w1:World} {v v1 v2:Value} (h:Next w v v1) (h1:Next w1 v1 v2) (hs:w.heap.size≤w1.heap.size):Next w v v2:=by
 rcases h1 with h1 | h1
 ·rcases h with h | h
  ·exact .inl (h1.trans h)
  ·exact .inr fun k hk=>h k (h1▸hk)
 ·exact .inr fun k hk=>Nat.le_trans hs (h1 k hk)
theorem Next.back {w w1:World} {v v':Value} (h:Next w1 v v') (hs:w.heap.size≤w1.heap.size):Next w v v' :=
 h.imp id fun h k hk=>Nat.le_trans hs (h k hk)
theorem qbv {w w1:World} {r:Option Nat} (h:w.grownBy w1 r):w.grownBy w1.drew r:=⟨h.os,h.tape,h.output,h.size,h.block⟩
theorem grown_drewN {w w1:World} {r:Option Nat} (h:w.grownBy w1 r) (n:Nat):w.grownBy (w1.drewN n) r:=⟨h.os,h.tape,h.output,h.size,h.block⟩
theorem grown_alloc {w w1:World} {r:Option Nat} (h:w.grownBy w1 r) (o:Obj):w.grownBy (w1.alloc o) r :=
 h.trans (World.grownBy_alloc _ _ _)
theorem qbo {B:Nat} {w w1:World} {v:Value} (h:w.grownBy w1 v.ownBlock) (hB:B≤w.heap.size) (hv:∀ k,v.ownBlock=some k→B≤k):Below B w w1 :=
 (Below.refl B w).grown h hB hv
def OwnX (w:World) (base:Nat) (e:TypeId) (size:Nat) (v:Value) (n:Nat) (xs:List Value):Prop :=
 xs.length=n*size ∧
 ((v=.slice none 0 0∧n=0) ∨
  ∃ g cap cur fz,v=.slice (some ⟨g,0,none⟩) n cap∧base≤g∧w.heap[g]?=some (.cells cur e fz)∧n≤cap∧cap≤maxLen∧cur.size=cap*size∧cur.toList.take (n*size)=xs∧(fz=(0,0)∨cap=n))
section
variable {w w':World} {base e size n:Nat} {v:Value} {xs:List Value}
theorem OwnX.of (h:w.ownsRow base e size v n xs):OwnX w base e size v n xs:=by
 refine ⟨h.1,?_⟩
 rcases h.2 with h | ⟨g,cap,cur,h1,h2,h3,h4,h5,h6,h7⟩
 ·exact .inl h
 ·exact .inr ⟨g,cap,cur,(0,0),h1,h2,h3,h4,h5,h6,h7,.inl rfl⟩
theorem OwnX.nil (w:World) (base e size:Nat):OwnX w base e size (.slice none 0 0) 0 []:=⟨by simp,.inl ⟨rfl,rfl⟩⟩
theorem OwnX.lt (h:OwnX w base e size v n xs):∀ k,v.ownBlock=some k→base≤k∧k<w.heap.size:=by
 intro k hk
 rcases h.2 with ⟨rfl,_⟩ | ⟨g,cap,cur,fz,rfl,hb,hg,_⟩
 ·simp [Value.ownBlock] at hk
 ·simp [Value.ownBlock] at hk;subst hk;exact ⟨hb,(Array.getElem?_eq_some_iff.1 hg).1⟩
theorem OwnX.kept {row:Option Nat} (h:OwnX w base e size v n xs) (hg:w.grownBy w' row) (hne:v.ownBlock=none∨v.ownBlock≠row):OwnX w' base e size v n xs:=by
 refine ⟨h.1,?_⟩
 rcases h.2 with hn | ⟨g,cap,cur,fz,rfl,hb,hgg,rest⟩
 ·exact .inl hn
 ·refine .inr ⟨g,cap,cur,fz,rfl,hb,?_,rest⟩;rw [hg.block g (Array.getElem?_eq_some_iff.1 hgg).1 (by simpa [Value.ownBlock] using hne)];exact hgg
theorem OwnX.alloc (h:OwnX w base e size v n xs) (o:Obj):OwnX (w.alloc o) base e size v n xs :=
 h.kept (World.grownBy_alloc w o none) (by cases hv:v.ownBlock <;> simp)
theorem OwnX.below (h:OwnX w base e size v n xs) {B:Nat} (hb:Below B w w') (hB:w.heap.size≤B):OwnX w' base e size v n xs:=by
 refine ⟨h.1,?_⟩
 rcases h.2 with hn | ⟨g,cap,cur,fz,rfl,hbb,hgg,rest⟩
 ·exact .inl hn
 ·exact .inr ⟨g,cap,cur,fz,rfl,hbb,(hb.block g (Nat.lt_of_lt_of_le (Array.getElem?_eq_some_iff.1 hgg).1 hB)).trans hgg,rest⟩
theorem OwnX.le_cap {A:Option Addr} {c:Nat} (h:OwnX w base e size (.slice A n c) n xs):n≤c:=by
 rcases h.2 with ⟨_,hn⟩ | ⟨g,cap,cur,fz,hv,_,_,hnc,_⟩
 ·omega
 ·injection hv with _ _ h3; omega
theorem OwnX.mono (h:OwnX w base e size v n xs) {base':Nat} (hb:base'≤base):OwnX w base' e size v n xs :=
 ⟨h.1,h.2.elim .inl fun ⟨g,cap,cur,fz,hv,hg,r⟩=>.inr ⟨g,cap,cur,fz,hv,Nat.le_trans hb hg,r⟩⟩
theorem OwnX.cells (h:OwnX w base e size v n xs) {g:Nat} (hg:v.ownBlock=some g):∀ j u,xs[j]?=some u→w.cell? ((⟨g,0,none⟩:Addr).add j)=some u:=by
 intro j u hu
 rcases h.2 with ⟨rfl,_⟩ | ⟨g',cap,cur,fz,rfl,_,hgg,_,_,_,htake,_⟩
 ·simp [Value.ownBlock] at hg
 ·simp [Value.ownBlock] at hg;subst hg;have hadd:(⟨g',0,none⟩:Addr).add j=⟨g',j,none⟩:=by unfold Addr.add; split <;> simp_all
  rw [hadd,cell_of_row w g' j cur e fz hgg];rw [← htake,List.getElem?_take] at hu
  split at hu
  ·simpa using hu
  ·cases hu
end
theorem qaZ {w w1:World} (h:Below w.heap.size w w1) (r:Option Nat):w.grownBy w1 r:=⟨h.os,h.tape,h.output,h.size,fun k hk _=>h.block k hk⟩
def Rd (w:World) (B:Nat) (A:Option Addr) (xs:List Value):Prop:=∀ i u,xs[i]?=some u→∃ ad,A=some ad∧ad.block<B∧w.cell? (ad.add i)=some u
theorem qar (a:Addr) (n:Nat):(a.add n).block=a.block:=by unfold Addr.add; split <;> rfl
theorem Rd.below {w w':World} {B:Nat} {A:Option Addr} {xs:List Value} (h:Rd w B A xs) (hb:Below B w w'):Rd w' B A xs:=fun i u hu=>by
 obtain ⟨ad,ha,hlt,hc⟩:=h i u hu;exact ⟨ad,ha,hlt,(hb.cell (by rw [qar]; exact hlt)).trans hc⟩
theorem Rd.mono {w:World} {B B':Nat} {A:Option Addr} {xs:List Value} (h:Rd w B A xs) (hb:B≤B'):Rd w B' A xs:=fun i u hu=>by
 obtain ⟨ad,ha,hlt,hc⟩:=h i u hu;exact ⟨ad,ha,Nat.lt_of_lt_of_le hlt hb,hc⟩
theorem Rd.nil (w:World) (B:Nat) (A:Option Addr):Rd w B A []:=fun i u hu=>by simp at hu
theorem Rd.at_ {w:World} {B k:Nat} {A:Option Addr} {xs:List Value} (h:Rd w B A xs) (hk:k<xs.length):∃ ad,A=some ad∧ad.block<B∧w.cell? (ad.add k)=some xs[k] :=
 h k _ (List.getElem?_eq_getElem hk)
theorem Rd.of_own {w:World} {base B:Nat} {e:TypeId} {size n c:Nat} {A:Option Addr} {xs:List Value} (h:OwnX w base e size (.slice A n c) n xs) (hB:w.heap.size≤B):Rd w B A xs:=fun i u hu=>by
 rcases h.2 with ⟨hv,hn⟩ | ⟨g,cap,cur,fz,hv,hbg,hg,_⟩
 ·have:=h.1;rw [hn,Nat.zero_mul] at this;rw [List.eq_nil_of_length_eq_zero this] at hu;simp at hu
 ·have hA:A=some ⟨g,0,none⟩:=by injection hv
  subst hA;exact ⟨_,rfl,by have:=(Array.getElem?_eq_some_iff.1 hg).1; show g<B; omega,h.cells (g:=g) rfl i u hu⟩
def KeepBut (e:TypeId) (w w':World):Prop:=w.heap.size≤w'.heap.size∧∀ (k:Nat) (cs:Array Value) (t:TypeId) (fz:Nat × Nat),t≠e→w.heap[k]?=some (Obj.cells cs t fz)→w'.heap[k]?=some (Obj.cells cs t fz)
theorem qbr {w w':World} {B:Nat} {e:TypeId} {s n:Nat} {v:Value} {xs:List Value} (hown:OwnX w B e s v n xs) (hg:w.grownBy w' v.ownBlock):KeepBut e w w':=by
 refine ⟨hg.size,fun k cs t fz ht hk=>?_⟩;have hlt:k<w.heap.size:=(Array.getElem?_eq_some_iff.1 hk).1;refine (hg.block k hlt fun hb=>?_).trans hk
 rcases hown.2 with ⟨rfl,_⟩ | ⟨g,cap,cur,fz,rfl,_,hgg,_⟩
 ·simp [Value.ownBlock] at hb
 ·simp [Value.ownBlock] at hb;subst hb;rw [hgg] at hk;simp at hk;exact ht hk.2.1.symm
theorem qcI {e:TypeId} {w w':World} (h:KeepBut e w w') {k:Nat} {cs:Array Value} {t:TypeId} {fz:Nat × Nat} (ht:t≠e) (hk:w.heap[k]?=some (.cells cs t fz)):w'.heap[k]?=some (.cells cs t fz):=h.2 k cs t fz ht hk
def Alloc1 (w w':World):Prop:=∃ o,w'=w.alloc o
theorem qdU {w w':World} (h:Alloc1 w w') {k:Nat} {o:Obj} (hk:w.heap[k]?=some o):w'.heap[k]?=some o:=by
 obtain ⟨o',rfl⟩:=h;exact (Below.heap_alloc w o' k (Array.getElem?_eq_some_iff.1 hk).1).trans hk
def One (e:TypeId) (y:Value) (x:Value) (w:World):Prop:=∃ g,x=.slice (some ⟨g,0,none⟩) 1 1∧w.heap[g]?=some (.cells #[y] e (0,0))
theorem One.keep {e f:TypeId} {y x:Value} {w w':World} (h:One e y x w) (hk:KeepBut f w w') (hne:e≠f):One e y x w':=by
 obtain ⟨g,hx,hg⟩:=h; exact ⟨g,hx,qcI hk hne hg⟩
theorem One.alloc1 {e:TypeId} {y x:Value} {w w':World} (h:One e y x w) (hk:Alloc1 w w'):One e y x w':=by
 obtain ⟨g,hx,hg⟩:=h; exact ⟨g,hx,qdU hk hg⟩
theorem One.full {e:TypeId} {y x:Value} {w w':World} (h:One e y x w) (hk:Below w.heap.size w w'):One e y x w':=by
 obtain ⟨g,hx,hg⟩:=h; exact ⟨g,hx,(hk.block g (Array.getElem?_eq_some_iff.1 hg).1).trans hg⟩
theorem One.new (e:TypeId) (y:Value) (w:World):One e y (.slice (some ⟨w.heap.size,0,none⟩) 1 1) (w.alloc (.cells #[y] e)):=⟨_,rfl,heap_alloc_new w _⟩
section
variable {P:Program}
theorem qdD {w:World} {base e size n m old:Nat} {z:Value} {xs news:List Value} (hx:xs.length=n*size) (hl:news.length=m*size) (hzs:z.cells.size=size) (h63:n+m≤maxLen) (hbase:base≤w.heap.size) :
  (w.drew.alloc (.cells (xs.toArray++news.toArray++Builtin.zeroCells z.cells (grownCap w (n+m) old e - (n+m))) e)).ownsRow base e size
   (.slice (some ⟨w.heap.size,0,none⟩) (n+m) (grownCap w (n+m) old e)) (n+m) (xs++news):=by
 have hge:=grownCap_ge w (n+m) old e;have hcm:grownCap w (n+m) old e≤maxLen:=grownCap_le_maxLen w (n+m) old e h63;have hlen:(xs++news).length=(n+m)*size:=by rw [List.length_append,hx,hl,Nat.add_mul]
 refine ⟨hlen,.inr ⟨w.heap.size,_,_,rfl,hbase,heap_alloc_new w.drew _,hge,hcm,?_,?_⟩⟩
 ·simp only [Array.size_append,List.size_toArray,size_zeroCells,hzs,hx,hl,← Nat.add_mul]
  congr 1
  omega
 ·simp only [Array.toList_append,List.append_assoc];rw [← List.append_assoc,← hlen];exact List.take_left
theorem qbs (w:World) (o:Obj) (r:Option Nat):w.grownBy (w.drew.alloc o) r:=⟨rfl,rfl,rfl,by simp,fun k hk _=>Below.heap_alloc w.drew o k hk⟩
def App (w:World) (base e size:Nat) (v:Value) (n:Nat) (xs:List Value) (x:Value) (w':World):Prop :=
 OwnX w' base e size x n xs∧w.grownBy w' v.ownBlock∧Next w v x
theorem qb0 {w:World} {t ty e:TypeId} {size bytes:Nat} (T:SlT P t e size bytes) {base n:Nat} {v:Value} {xs:List Value} (hown:OwnX w base e size v n xs)
  {Ad:Option Addr} {m c:Nat} {news:List Value} (hl:news.length=m*size) (hnews:∀ j u,news[j]?=some u→∃ ad,Ad=some ad∧w.cell? (ad.add j)=some u) (h1:∀ u ∈ news,u.oneCell'=true)
  (h63:n+m≤maxLen) (hbytes:(n+m)*bytes≤140737488355328) (hbase:base≤w.heap.size) :
  ∃ A c' w',(Builtin.append_ #[t,t] ty #[v,.slice Ad m c]).run P w=.ok (.slice A (n+m) c') w'∧App w base e size v (n+m) (xs++news) (.slice A (n+m) c') w':=by
 obtain ⟨i,z,hi,hz,hsz,hby,hzs⟩:=T.info
 by_cases hm:m=0
 ·subst hm;have hnn:news=[]:=List.eq_nil_of_length_eq_zero (by simpa using hl);subst hnn
  rcases hown.2 with ⟨rfl,rfl⟩ | ⟨g,cap,cur,fz,rfl,hb,hgg,hnc,rest⟩
  ·refine ⟨none,0,w,?_,by simpa using hown,World.grownBy.refl _ _,.inl rfl⟩
   cases Ad <;> simp [Builtin.append_,run_underlying T.und,sizeOf,typeInfo,hi,Builtin.lenOf,Builtin.firstCells,loadCells,loadCellsFrom]
  ·refine ⟨some ⟨g,0,none⟩,cap,w,?_,by simpa using hown,World.grownBy.refl _ _,.inl rfl⟩
   cases Ad <;> simp [Builtin.append_,run_underlying T.und,sizeOf,typeInfo,hi,Builtin.lenOf,Builtin.firstCells,loadCells,loadCellsFrom,hnc,storeCells]
 ·have hpos:0<news.length:=by rw [hl]; exact Nat.mul_pos (by omega) T.pos
  obtain ⟨ad,rfl,_⟩:=hnews 0 _ (List.getElem?_eq_getElem hpos)
  have hcells:∀ j u,news[j]?=some u→w.cell? (ad.add j)=some u:=fun j u hu=>by
   obtain ⟨ad',he,hc⟩:=hnews j u hu
   injection he with he
   subst he;exact hc
  by_cases hf:w.ownsRow base e size v n xs
  ·obtain ⟨v',w',hr,h2,h3,_,h5⟩:=run_append_own_at (P:=P) w base t ty e i z size bytes T.und hi hz hsz hby hzs T.pos v n xs hf ad m c news hl hcells h1 h63 hbytes hbase
   have hn:Next w v v':=by
    rcases h5 with h5 | h5
    ·exact .inl h5
    ·exact .inr fun k hk=>by rw [h5] at hk; simp at hk; omega
   rcases h2.2 with ⟨_,h0⟩ | ⟨g,cap,cur,rfl,_⟩
   ·omega
   ·exact ⟨_,_,w',hr,.of h2,h3,hn⟩
  ·rcases hown.2 with hnil | ⟨g,cap,cur,fz,rfl,hb,hgg,hnc,hcm,hcs,htk,hfz⟩
   ·exact absurd ⟨hown.1,.inl hnil⟩ hf
   ·rcases hfz with rfl | rfl
    ·exact absurd ⟨hown.1,.inr ⟨g,cap,cur,rfl,hb,hgg,hnc,hcm,hcs,htk⟩⟩ hf
    ·have holds:=hown.cells (g:=g) rfl;subst hsz;subst hby;have hr:=run_append_grow (P:=P) w t ty e i z T.und hi hz ⟨g,0,none⟩ cap cap xs hown.1 holds ad m c news hl hcells (by omega) (by simp only [maxLen] at h63; omega) (growslice_fits (by omega) hbytes);exact ⟨_,_,_,hr,.of (qdD hown.1 hl hzs h63 hbase),qbs _ _ _,.inr fun k hk=>by simp [Value.ownBlock] at hk; omega⟩
theorem run_append_str {w:World} {t u ty e:TypeId} (T:SlT P t e 1 1) (hz0:∃ i,P.info? e=some i∧i.zero=some (.int .u8 0)) (hu:P.underlying u=some .string)
  {base n:Nat} {v:Value} {xs:List Value} (s:ByteArray) (hown:OwnX w base e 1 v n xs) (hbytes:n+s.size≤140737488355328) (hbase:base≤w.heap.size) :
  ∃ A c w',(Builtin.append_ #[t,u] ty #[v,.string s]).run P w=.ok (.slice A (n+s.size) c) w'∧App w base e 1 v (n+s.size) (xs++Lib.strCells s) (.slice A (n+s.size) c) w':=by
 obtain ⟨i,z,hi,hz,hsz,hby,hzs⟩:=T.info;obtain ⟨i',hi',hz'⟩:=hz0;have:i=i':=by rw [hi] at hi'; exact Option.some.inj hi'
 subst this;have hsc:(Lib.strCells s).length=s.size*1:=by rw [Lib.strCells_length]; omega
 by_cases hm:s.size=0
 ·have hf:=Lib.run_firstCells_string (P:=P) w 1 s;rw [hm] at hf;have hnn:Lib.strCells s=[]:=List.eq_nil_of_length_eq_zero (by omega);rw [hm,hnn,List.append_nil,Nat.add_zero]
  rcases hown.2 with ⟨rfl,rfl⟩ | ⟨g,cap,cur,fz,rfl,hb,hgg,hnc,rest⟩
  ·refine ⟨none,0,w,?_,hown,World.grownBy.refl _ _,.inl rfl⟩;simp [Builtin.append_,run_underlying T.und,run_underlying hu,sizeOf,typeInfo,hi,hsz,Builtin.lenOf,hm,hf]
  ·refine ⟨some ⟨g,0,none⟩,cap,w,?_,hown,World.grownBy.refl _ _,.inl rfl⟩;rw [hnn] at hf;simp [Builtin.append_,run_underlying T.und,run_underlying hu,sizeOf,typeInfo,hi,hsz,Builtin.lenOf,hm,hf,hnc,storeCells]
 ·rcases hown.2 with ⟨rfl,rfl⟩ | ⟨g,cap,cur,fz,rfl,hbg,hg,hnc,hcm,hcs,htake,hfz⟩
  ·have hx:xs=[]:=List.eq_nil_of_length_eq_zero (by simpa using hown.1);subst hx;have hr:=run_append_nil_string (P:=P) w t u ty e i (.int .u8 0) T.und hu hi hz' s (by omega) (by omega) (by rw [hby]; omega)
   have e1:(s.data.map fun b=>Value.int .u8 b.toNat)=(Lib.strCells s).toArray:=by
    apply Array.ext';simp [Lib.strCells]
   rw [e1] at hr;have hg:=qdD (w:=w) (base:=base) (e:=e) (n:=0) (m:=s.size) (old:=0) (z:=.int .u8 0) (xs:=[]) (news:=Lib.strCells s) (size:=1) (by simp) hsc rfl (by unfold maxLen; omega) hbase;simp only [Nat.zero_add,List.nil_append,Array.empty_append] at hg ⊢;exact ⟨_,_,_,hr,.of hg,qbs _ _ _,.inr fun k hk=>by simp [Value.ownBlock] at hk; omega⟩
  ·by_cases hroom:n+s.size≤cap
   ·obtain rfl:fz=(0,0):=by
     rcases hfz with h | h
     ·exact h
     ·omega
    have hcs':cur.size=cap:=by simpa using hcs
    have hr:=Lib.run_append_room_string (P:=P) w t u ty e i T.und hu hi hsz g n cap cur hg s hroom (by omega);refine ⟨_,_,_,hr,.of ⟨by rw [List.length_append,hsc,hown.1,Nat.add_mul],.inr ⟨g,cap,_,rfl,hbg,setRow_heap w g cur _ e _ hg,hroom,hcm,?_,?_⟩⟩,⟨rfl,rfl,rfl,by simp,fun k _ hk=>setRow_other w g k _ (fun e=>hk (by simp [Value.ownBlock,e]))⟩,.inl rfl⟩
    ·simp only [List.size_toArray,List.length_append,List.length_take,List.length_drop,Array.length_toList,Lib.strCells_length];omega
    ·have ht':cur.toList.take n=xs:=by simpa using htake
     have hxl:xs.length=n:=by simpa using hown.1
     rw [ht',show (n+s.size)*1=(xs++Lib.strCells s).length by rw [List.length_append,Lib.strCells_length]; omega];exact List.take_left
   ·have holds:=hown.cells (g:=g) rfl;have hr:=Lib.run_append_grow_string (P:=P) w t u ty e i (.int .u8 0) T.und hu hi hz' ⟨g,0,none⟩ n cap xs (by rw [hsz]; exact hown.1) holds s (by omega) (by omega) (by rw [hby]; exact growslice_fits (by omega) (by omega));exact ⟨_,_,_,hr,.of (qdD hown.1 hsc rfl (by unfold maxLen; omega) hbase),qbs _ _ _,.inr fun k hk=>by simp [Value.ownBlock] at hk; omega⟩
theorem qaH {w:World} {ops:Array Oper} {rest:List Oper} {o:Oper} {a:Act} {Q:Exit→Act→World→Prop} {sl x:Operand} {t u:TypeId} {v y:Value} {R:Value→World→Prop}
  (hgd:o.guard=none) (ho:o.op=.call { callee:=.builtin .append,args:=#[sl,x],argTypes:=#[t,u] }) (hs:a.eval sl=v) (hx:a.eval x=y)
  (hrun:∃ v' w',(Builtin.append_ #[t,u] o.type #[v,y]).run P w=.ok v' w'∧R v' w') (h:∀ v' w',R v' w'→wpList P ops Q rest (a.put o.dst v') w') :
  wpList P ops Q (o :: rest) a w:=by
 refine wpList_plain hgd fun K hK=>?_;obtain ⟨v',w',hr,h2⟩:=hrun;unfold Oper.wp execOp;simp only [ho,resolve,invoke,builtin,Sem.run_bind,Sem.run_pure,Result.andThen_ok,List.map_toArray,List.map_cons,List.map_nil,hs,hx,hr];exact hK _ _ (h v' w' h2)
theorem qak {w0:World} {y:Value} {ops:Array Oper} {rest:List Oper} {o:Oper} {a:Act} {Q:Exit→Act→World→Prop} {s x:Operand} {t e:TypeId} {bytes:Nat} (T:SlT P t e 1 bytes)
  (hgd:o.guard=none) (ho:o.op=.call { callee:=.builtin .append,args:=#[s,x],argTypes:=#[t,t] })
  {base n:Nat} {v:Value} {xs:List Value} {ad:Nat} (hown:OwnX w0 base e 1 v n xs) (hs:a.eval s=v) (hx:a.eval x=.slice (some ⟨ad,0,none⟩) 1 1) (had:ad=w0.heap.size)
  (hy:y.oneCell'=true)
  (h63:n+1≤maxLen) (hbytes:(n+1)*bytes≤140737488355328) (hbase:base≤w0.heap.size)
  (h:∀ A c w',OwnX w' base e 1 (.slice A (n+1) c) (n+1) (xs++[y])→w0.grownBy w' v.ownBlock→Next w0 v (.slice A (n+1) c)→wpList P ops Q rest (a.put o.dst (.slice A (n+1) c)) w') :
  wpList P ops Q (o :: rest) a (w0.alloc (.cells #[y] e)):=by
 subst had
 obtain ⟨A,c,w',hr,h2,h3,h4⟩:=qb0 (ty:=o.type) (c:=1) (Ad:=some ⟨w0.heap.size,0,none⟩) T (hown.alloc (.cells #[y] e)) (news:=[y]) (m:=1) rfl (fun j u hu=>⟨_,rfl,cell_one_new _ _ _ j u hu⟩)
  (by intro u hu; simp at hu; subst hu; exact hy) h63 hbytes (by simp; omega)
 refine qaH (R:=fun v' w1=>v'=.slice A (n+1) c∧w1=w') hgd ho hs hx ⟨_,_,hr,rfl,rfl⟩ ?_;rintro v' w1 ⟨rfl,rfl⟩;exact h _ _ _ h2 ((World.grownBy_alloc w0 _ _).trans h3) (h4.back (by simp))
theorem qcP {w:World} {ops:Array Oper} {rest:List Oper} {o:Oper} {a:Act} {Q:Exit→Act→World→Prop} {sl x:Operand} {t u e:TypeId} (T:SlT P t e 1 1)
  (hz:∃ i,P.info? e=some i∧i.zero=some (.int .u8 0)) (hu:P.underlying u=some .string)
  (hgd:o.guard=none) (ho:o.op=.call { callee:=.builtin .append,args:=#[sl,x],argTypes:=#[t,u] })
  {base n:Nat} {v:Value} {xs:List Value} {s:ByteArray} (hown:OwnX w base e 1 v n xs) (hs:a.eval sl=v) (hx:a.eval x=.string s)
  (hbytes:n+s.size≤140737488355328) (hbase:base≤w.heap.size)
  (h:∀ A c w',OwnX w' base e 1 (.slice A (n+s.size) c) (n+s.size) (xs++Lib.strCells s)→w.grownBy w' v.ownBlock→Next w v (.slice A (n+s.size) c)→wpList P ops Q rest (a.put o.dst (.slice A (n+s.size) c)) w') :
  wpList P ops Q (o :: rest) a w:=by
 obtain ⟨A,c,w',hr,h2,h3,h4⟩:=run_append_str (ty:=o.type) T hz hu s hown hbytes hbase;refine qaH (R:=fun v' w1=>v'=.slice A (n+s.size) c∧w1=w') hgd ho hs hx ⟨_,_,hr,rfl,rfl⟩ ?_;rintro v' w1 ⟨rfl,rfl⟩;exact h _ _ _ h2 h3 h4
theorem qaI {w:World} {ops:Array Oper} {rest:List Oper} {o:Oper} {a:Act} {Q:Exit→Act→World→Prop} {sl x:Operand} {t e:TypeId} {size bytes:Nat} (T:SlT P t e size bytes)
  (hgd:o.guard=none) (ho:o.op=.call { callee:=.builtin .append,args:=#[sl,x],argTypes:=#[t,t] })
  {base n B:Nat} {v:Value} {xs:List Value} {Ad:Option Addr} {m cx:Nat} {news:List Value} (hown:OwnX w base e size v n xs) (hs:a.eval sl=v) (hx:a.eval x=.slice Ad m cx)
  (hl:news.length=m*size) (hr:Rd w B Ad news) (h1:∀ u ∈ news,u.oneCell'=true)
  (h63:n+m≤maxLen) (hbytes:(n+m)*bytes≤140737488355328) (hbase:base≤w.heap.size)
  (h:∀ A c w',OwnX w' base e size (.slice A (n+m) c) (n+m) (xs++news)→w.grownBy w' v.ownBlock→Next w v (.slice A (n+m) c)→wpList P ops Q rest (a.put o.dst (.slice A (n+m) c)) w') :
  wpList P ops Q (o :: rest) a w:=by
 obtain ⟨A,c,w',hr,h2,h3,h4⟩:=qb0 (ty:=o.type) (c:=cx) T hown hl (fun j u hu=>by
  obtain ⟨ad,h1,_,h3⟩:=hr j u hu;exact ⟨ad,h1,h3⟩) h1 h63 hbytes hbase
 refine qaH (R:=fun v' w1=>v'=.slice A (n+m) c∧w1=w') hgd ho hs hx ⟨_,_,hr,rfl,rfl⟩ ?_;rintro v' w1 ⟨rfl,rfl⟩;exact h _ _ _ h2 h3 h4
theorem own_const {w:World} {e:TypeId} {C:Array Value} {n g base:Nat} {fz:Nat × Nat} (hg:g=w.heap.size) (hn:C.size=n) (hm:n≤maxLen) (hb:base≤w.heap.size) :
  OwnX (w.alloc (.cells C e fz)) base e 1 (.slice (some ⟨g,0,none⟩) n n) n C.toList:=by
 subst hg;exact ⟨by simp [hn],.inr ⟨w.heap.size,n,C,fz,rfl,hb,heap_alloc_new w _,Nat.le_refl _,hm,by omega,by rw [Nat.mul_one,← hn,← Array.length_toList]; exact List.take_length,.inr rfl⟩⟩
end
def Blk (w:World) (g:Nat) (t:TypeId) (cs:Array Value):Prop:=w.heap[g]?=some (.cells cs t (0,0))
section
variable {w w':World} {g:Nat} {t:TypeId} {cs:Array Value}
theorem Blk.lt (h:Blk w g t cs):g<w.heap.size:=(Array.getElem?_eq_some_iff.1 h).1
theorem Blk.cell (h:Blk w g t cs) (i:Nat):w.cell? ⟨g,i,none⟩=cs[i]?:=cell_of_row w g i cs t (0,0) h
theorem Blk.free (h:Blk w g t cs) (i:Nat):w.frozen? ⟨g,i,none⟩=false:=by
 unfold Blk at h;simp [World.frozen?,h]
theorem Blk.new (w:World) (t:TypeId) (cs:Array Value):Blk (w.alloc (.cells cs t)) w.heap.size t cs:=heap_alloc_new w _
theorem Blk.alloc (h:Blk w g t cs) (o:Obj):Blk (w.alloc o) g t cs:=(Below.heap_alloc w o g h.lt).trans h
theorem Blk.below {B:Nat} (h:Blk w g t cs) (hb:Below B w w') (hg:g<B):Blk w' g t cs:=(hb.block g hg).trans h
theorem Blk.grown {row:Option Nat} (h:Blk w g t cs) (hb:w.grownBy w' row) (hg:some g≠row):Blk w' g t cs:=(hb.block g h.lt hg).trans h
theorem Blk.keep {e:TypeId} (h:Blk w g t cs) (hk:KeepBut e w w') (hne:t≠e):Blk w' g t cs:=qcI hk hne h
theorem Blk.alloc1 (h:Blk w g t cs) (hk:Alloc1 w w'):Blk w' g t cs:=qdU hk h
theorem qax {B:Nat} {e:TypeId} {s n:Nat} {v:Value} {xs:List Value} (ho:OwnX w B e s v n xs) (h:Blk w g t cs) (hne:t≠e):v.ownBlock≠some g:=by
 intro hb
 rcases ho.2 with ⟨rfl,_⟩ | ⟨g',cap,cur,fz,rfl,_,hgg,_⟩
 ·simp [Value.ownBlock] at hb
 ·simp [Value.ownBlock] at hb;subst hb;unfold Blk at h;rw [hgg] at h;simp at h;exact hne h.2.1.symm
end
theorem Rd.of_blk {w:World} {g B:Nat} {t:TypeId} {l:List Value} (h:Blk w g t l.toArray) (hB:g<B):Rd w B (some ⟨g,0,none⟩) l:=fun i u hu=>by
 refine ⟨_,rfl,hB,?_⟩;have hadd:(⟨g,0,none⟩:Addr).add i=⟨g,i,none⟩:=by unfold Addr.add; split <;> simp_all
 rw [hadd,h.cell i]
 simpa using hu
structure Wrote (g:Nat) (w w':World):Prop where
 grown:w.grownBy w' (some g)
 size:w'.heap.size=w.heap.size
theorem Wrote.below {B g:Nat} {a w w':World} (h:Wrote g w w') (hb:Below B a w) (hg:B≤g) (hB:B≤w.heap.size):Below B a w':=hb.grown h.grown hB fun k hk=>by injection hk with hk; omega
theorem Wrote.own {g:Nat} {w w':World} {B:Nat} {e:TypeId} {s n:Nat} {v:Value} {xs:List Value} (h:Wrote g w w') (ho:OwnX w B e s v n xs) (hne:v.ownBlock≠some g):OwnX w' B e s v n xs:=ho.kept h.grown (.inr hne)
theorem Wrote.blk {g g':Nat} {w w':World} {t:TypeId} {cs:Array Value} (h:Wrote g w w') (hb:Blk w g' t cs) (hne:g'≠g):Blk w' g' t cs:=hb.grown h.grown (by simpa using hne)
theorem qbU (w:World) (g:Nat) (cs:Array Value):Wrote g w (w.setRow g cs) :=
 ⟨⟨rfl,rfl,rfl,by simp,fun k _ hk=>setRow_other w g k _ (fun e=>hk (by rw [e]))⟩,by simp⟩
section
variable {P:Program}
theorem qac {w:World} {ops:Array Oper} {rest:List Oper} {o:Oper} {a:Act} {Q:Exit→Act→World→Prop} {ty:TypeId} {x y:Operand} {g:Nat} {cells old:Array Value} {t:TypeId}
  (hg:Blk w g t old) (hgd:o.guard=none) (ho:o.op=.store ty x y) (hx:a.eval x=.pointer (some ⟨g,0,none⟩)) (hy:a.eval y=.agg cells)
  (hi:(P.info? ty).map (·.size)=some cells.size) (hold:old.size=cells.size) (h1:cells.all (·.oneCell')=true)
  (h:∀ w',Blk w' g t cells→Wrote g w w'→wpList P ops Q rest (a.put o.dst undef) w'):wpList P ops Q (o :: rest) a w :=
 wpList_store_row hgd ty x y ho g cells hx hy t old hg hi hold h1 (h _ (setRow_heap w g old cells t (0,0) hg) (qbU w g cells))
theorem qad {w:World} {ops:Array Oper} {rest:List Oper} {o:Oper} {a:Act} {Q:Exit→Act→World→Prop} {ty:TypeId} {x:Operand} {g:Nat} {cs:Array Value} {t:TypeId} {d:TypeDesc}
  (hg:Blk w g t cs) (hgd:o.guard=none) (ho:o.op=.load ty x) (hx:a.eval x=.pointer (some ⟨g,0,none⟩))
  (hu:P.underlying ty=some d) (hd:(match d with | .struct _ | .array _ _=>true | _=>false)=true) (hi:(P.info? ty).map (·.size)=some cs.size)
  (h:wpList P ops Q rest (a.put o.dst (.agg cs)) w):wpList P ops Q (o :: rest) a w :=
 wpList_load_row hgd ty x ho g hx t cs (0,0) d hg hu hd hi h
theorem qah {fn:Func} {p:Tmp} {ty:TypeId} (h:fn.results=#[.cell p ty]) {tmps:Array Value} {w:World} {g:Nat} {cs:Array Value} {t:TypeId} {d:TypeDesc} (hp:tmps.getD p undef=.pointer (some ⟨g,0,none⟩))
  (hg:Blk w g t cs) (hu:P.underlying ty=some d) (hd:(match d with | .struct _ | .array _ _=>true | _=>false)=true) (hi:(P.info? ty).map (·.size)=some cs.size) :
  (results fn tmps).run P w=.ok (.agg cs) w:=by
 have hl:=run_loadVar_row (P:=P) w g t ty cs (0,0) d hg hu hd hi;have hp':tmps[p]?.getD undef=.pointer (some ⟨g,0,none⟩):=by simpa using hp
 simp only [results,h];simp [Sem.run_bind,Result.andThen,hp',asAddr,hl]
theorem qai {fn:Func} {p u:Tmp} {ty:TypeId} (h:fn.results=#[.cell p ty,.tmp u]) {tmps:Array Value} {w:World} {g:Nat} {cs:Array Value} {t:TypeId} {d:TypeDesc} (hp:tmps.getD p undef=.pointer (some ⟨g,0,none⟩))
  (hg:Blk w g t cs) (hu:P.underlying ty=some d) (hd:(match d with | .struct _ | .array _ _=>true | _=>false)=true) (hi:(P.info? ty).map (·.size)=some cs.size) :
  (results fn tmps).run P w=.ok (.tuple #[.agg cs,tmps.getD u undef]) w:=by
 have hl:=run_loadVar_row (P:=P) w g t ty cs (0,0) d hg hu hd hi;have hp':tmps[p]?.getD undef=.pointer (some ⟨g,0,none⟩):=by simpa using hp
 simp only [results,h];simp [Sem.run_bind,Result.andThen,hp',asAddr,hl]
theorem run_store_cell {w:World} {ty:TypeId} {g i:Nat} {v:Value} {cs:Array Value} {t:TypeId} (hg:Blk w g t cs) (hi:(P.info? ty).map (·.size)=some 1) (hlt:i<cs.size) (h1:v.oneCell'=true) :
  (storeVar ty ⟨g,i,none⟩ v).run P w=.ok () (w.setRow g (cs.setIfInBounds i v)):=by
 have hc1:v.cells=#[v]:=by cases v <;> first | rfl | simp [Value.oneCell'] at h1
 have hst:=run_storeCells_at P g i t [v] 0 cs w hg (by simp; omega) (by intro u hu; simp at hu; subst hu; exact h1)
 cases hq:P.info? ty with
 | none=>simp [hq] at hi
 | some j =>
  have hj:j.size=1:=by simpa [hq] using hi
  have e:(cs.toList.take (i+0)++[v]++cs.toList.drop (i+0+[v].length)).toArray=cs.setIfInBounds i v:=by
   apply Array.ext';simp only [Nat.add_zero,List.length_cons,List.length_nil,Array.toList_setIfInBounds];rw [List.set_eq_take_append_cons_drop,if_pos (by simpa using hlt)];simp
  rw [e] at hst;simp [storeVar,hc1,sizeOf,typeInfo,hq,hj,hst]
theorem qaf {w:World} {ops:Array Oper} {rest:List Oper} {o:Oper} {a:Act} {Q:Exit→Act→World→Prop} {ty:TypeId} {x y:Operand} {g i:Nat} {v:Value} {cs:Array Value} {t:TypeId}
  (hg:Blk w g t cs) (hgd:o.guard=none) (ho:o.op=.store ty x y) (hx:a.eval x=.pointer (some ⟨g,i,none⟩)) (hy:a.eval y=v)
  (hi:(P.info? ty).map (·.size)=some 1) (hlt:i<cs.size) (h1:v.oneCell'=true)
  (h:∀ w',Blk w' g t (cs.setIfInBounds i v)→Wrote g w w'→wpList P ops Q rest (a.put o.dst undef) w'):wpList P ops Q (o :: rest) a w:=by
 refine wpList_plain hgd fun K hK=>?_;have hr:=run_store_cell (P:=P) (ty:=ty) hg hi hlt h1;unfold Oper.wp execOp;simp only [ho,hx,hy,Instr.storeAt,Instr.sureAddr,Sem.run_bind,Sem.run_pure,Result.andThen_ok,hr];exact hK _ _ (h _ (setRow_heap w g cs _ t (0,0) hg) (qbU w g _))
end
theorem qau {w:World} {g i:Nat} {t:TypeId} {cs:Array Value} (h:Blk w g t cs) (u:Value):Blk (w.setCell ⟨g,i,none⟩ u) g t (cs.setIfInBounds i u):=by
 unfold Blk at *;simp only [World.setCell,Array.getElem?_modify,if_pos,h];rfl
theorem qap (w:World) (g i:Nat) (u:Value):Wrote g w (w.setCell ⟨g,i,none⟩ u) :=
 ⟨⟨rfl,rfl,rfl,by simp [World.setCell],fun k _ hk=>Below.heap_setCell _ _ _ _ (by simpa using hk)⟩,by simp [World.setCell]⟩
theorem rd_drop {w:World} {B:Nat} {ad:Addr} {xs:List Value} (h:Rd w B (some ad) xs) (n:Nat):Rd w B (some (ad.add n)) (xs.drop n):=fun i u hu=>by
 rw [List.getElem?_drop] at hu;obtain ⟨ad',e,hb,hc⟩:=h _ u hu
 injection e with e
 subst e;refine ⟨_,rfl,by rw [qar]; exact hb,?_⟩;rw [show (ad.add n).add i=ad.add (n+i) from ?_]
 ·exact hc
 ·unfold Addr.add
  by_cases h1:n=0 <;> by_cases h2:i=0 <;> simp [h1,h2,Nat.add_assoc]
theorem rd_take {w:World} {B:Nat} {A:Option Addr} {xs:List Value} (h:Rd w B A xs) (n:Nat):Rd w B A (xs.take n):=fun i u hu=>by
 rw [List.getElem?_take] at hu
 split at hu
 ·exact h i u hu
 ·simp at hu
theorem blk_src {w:World} {g:Nat} {t:TypeId} {cs:Array Value} (h:Blk w g t cs) (n:Nat):∀ j v,(cs.toList.take n)[j]?=some v→w.cell? ((⟨g,0,none⟩:Addr).add j)=some v:=fun j v hv=>by
 have hadd:(⟨g,0,none⟩:Addr).add j=⟨g,j,none⟩:=by unfold Addr.add; split <;> simp_all
 rw [hadd,h.cell];rw [List.getElem?_take] at hv
 split at hv
 ·simpa using hv
 ·cases hv
section
variable {P:Program}
theorem qc7 {w:World} {g o n:Nat} {t ty:TypeId} {cs r:Array Value} {d:TypeDesc} (hg:Blk w g t cs) (ho:o+n≤cs.size) (hr:((cs.toList.drop o).take n).toArray=r)
  (hu:P.underlying ty=some d) (hd:(match d with | .struct _ | .array _ _=>true | _=>false)=true) (hi:(P.info? ty).map (·.size)=some n) :
  (loadVar ty ⟨g,o,none⟩).run P w=.ok (.agg r) w:=by
 subst hr;have hlen:((cs.toList.drop o).take n).length=n:=by simp; omega
 have hl:(loadCells ⟨g,o,none⟩ ((cs.toList.drop o).take n).length).run P w=.ok ((cs.toList.drop o).take n).toArray w :=
  run_loadCells_list (P:=P) w ⟨g,o,none⟩ ((cs.toList.drop o).take n) (fun j v hv=>by
   have hadd:(⟨g,o,none⟩:Addr).add j=⟨g,o+j,none⟩:=by unfold Addr.add; split <;> simp_all
   rw [hadd,hg.cell];rw [List.getElem?_take] at hv
   split at hv
   ·rw [List.getElem?_drop] at hv
    simpa using hv
   ·cases hv)
 rw [hlen] at hl
 cases hq:P.info? ty with
 | none=>simp [hq] at hi
 | some i =>
  have hs:i.size=n:=by simpa [hq] using hi
  have hagg:(isAgg ty).run P w=.ok true w:=by
   unfold isAgg;rw [Sem.run_bind,run_underlying hu w]
   cases d <;> simp_all
  simp [loadVar,Sem.run_bind,hagg,sizeOf,typeInfo,hq,hs,hl]
theorem qbf {w:World} {ops:Array Oper} {rest:List Oper} {o:Oper} {a:Act} {Q:Exit→Act→World→Prop} {ty:TypeId} {x:Operand} {g k n:Nat} {cs r:Array Value} {t:TypeId} {d:TypeDesc}
  (hg:Blk w g t cs) (hk:k+n≤cs.size) (hr:((cs.toList.drop k).take n).toArray=r) (hgd:o.guard=none) (ho:o.op=.load ty x) (hx:a.eval x=.pointer (some ⟨g,k,none⟩))
  (hu:P.underlying ty=some d) (hd:(match d with | .struct _ | .array _ _=>true | _=>false)=true) (hi:(P.info? ty).map (·.size)=some n)
  (h:wpList P ops Q rest (a.put o.dst (.agg r)) w):wpList P ops Q (o :: rest) a w:=by
 refine wpList_plain hgd fun K hK=>?_;have hrun:=qc7 (P:=P) hg hk hr hu hd hi;unfold Oper.wp execOp;simp only [ho,hx,Instr.loadAt,Instr.sureAddr,Sem.run_bind,Sem.run_pure,Result.andThen_ok,hrun];exact hK _ _ h
theorem qdk {w:World} {ops:Array Oper} {rest:List Oper} {o:Oper} {a:Act} {Q:Exit→Act→World→Prop} {d s:Operand} {dT sT elem t:TypeId} {g off dLen dCap sLen sCap:Nat} {ad:Addr} {cur new:Array Value} (cs:List Value)
  (hg:Blk w g t cur) (hgd:o.guard=none) (ho:o.op=.call { callee:=.builtin .copy,args:=#[d,s],argTypes:=#[dT,sT] }) (hu:P.underlying dT=some (.slice elem)) (hsz:(P.info? elem).map (·.size)=some 1)
  (hd:a.eval d=.slice (some ⟨g,off,none⟩) dLen dCap) (hs:a.eval s=.slice (some ad) sLen sCap) (hn:cs.length=Nat.min sLen dLen)
  (hsrc:∀ j v,cs[j]?=some v→w.cell? (ad.add j)=some v) (hfit:off+cs.length≤cur.size) (h1:∀ v ∈ cs,v.oneCell'=true)
  (hnew:(cur.toList.take off++cs++cur.toList.drop (off+cs.length)).toArray=new)
  (h:∀ w',Blk w' g t new→Wrote g w w'→wpList P ops Q rest (a.put o.dst (goInt cs.length)) w'):wpList P ops Q (o :: rest) a w:=by
 refine wpList_plain hgd fun K hK=>?_;have hr:=run_copy_row (P:=P) w dT sT o.type elem g off dLen dCap ad sLen sCap cur t cs hu hsz hg hn hsrc hfit h1;rw [hnew] at hr;unfold Oper.wp execOp;simp only [ho,resolve,invoke,builtin,Sem.run_bind,Sem.run_pure,Result.andThen_ok,List.map_toArray,List.map_cons,List.map_nil,hs,hd,hr];exact hK _ _ (h _ (setRow_heap w g cur _ t (0,0) hg) (qbU w g _))
theorem run_not32 {w:World} (e:Nat) (he:e<4294967296):(Op.unary .xor (.int .u32 (e:Int))).run P w=.ok (.int .u32 ((4294967295 - e:Nat):Int)) w:=by
 have h1:BitVec.ofInt 32 (4294967295:Int)=BitVec.allOnes 32:=by decide
 have h:bits .xor .u32 (4294967295:Int) (e:Int)=((4294967295 - e:Nat):Int):=by
  show IntKind.u32.wrap ((BitVec.ofInt 32 (4294967295:Int) ^^^ BitVec.ofInt 32 (e:Int)).toNat:Int)=_;rw [h1,BitVec.allOnes_xor,BitVec.toNat_not,BitVec.ofInt_natCast,BitVec.toNat_ofNat,Nat.mod_eq_of_lt he,IntKind.wrap_u32];omega
 have hm:IntKind.u32.max=4294967295:=by decide
 rw [unary_xor];simp only [IntKind.signed,hm,Bool.false_eq_true,if_false];rw [← h];rfl
theorem wpList_unary {w:World} {ops:Array Oper} {rest:List Oper} {o:Oper} {a:Act} {Q:Exit→Act→World→Prop} {u:UnOp} {ty:TypeId} {x:Operand} {v r:Value}
  (hr:(Op.unary u v).run P w=.ok r w) (hgd:o.guard=none) (ho:o.op=.unOp u ty x) (hx:a.eval x=v) (h:wpList P ops Q rest (a.put o.dst r) w):wpList P ops Q (o :: rest) a w:=by
 refine wpList_plain hgd fun K hK=>?_;unfold Oper.wp execOp;simp only [ho,hx,Sem.run_bind,Sem.run_pure,Result.andThen_ok,hr];exact hK _ _ h
theorem qbZ {w:World} {t e:TypeId} {n:Nat} {cs:Array Value} {k:Nat} {v:Value} (h:P.underlying t=some (.array n e)) (hk:k<n) (hv:cs[k]?=some v) (hs:(P.info? e).map (·.size)=some 1)
  (hag:(match P.underlying e with | some (.struct _) | some (.array _ _)=>true | _=>false)=false) (hu:∃ d,P.underlying e=some d):(Instr.index t (.agg cs) (.int .i64 (k:Int))).run P w=.ok v w:=by
 obtain ⟨d,hd⟩:=hu;have h0:(0:Int)≤(k:Int)∧(k:Int)<(n:Int):=by omega
 cases hq:P.info? e with
 | none=>simp [hq] at hs
 | some j =>
  have hj:j.size=1:=by simpa [hq] using hs
  have hagg:(isAgg e).run P w=.ok false w:=by
   unfold isAgg;rw [Sem.run_bind,run_underlying hd w];rw [hd] at hag
   cases d <;> simp_all
  simp [Instr.index,run_underlying h,asIntOf,h0,sizeOf,typeInfo,hq,hj,part,hagg,hv,go_sem];intro hle;omega
end
end Go.Proofs.YtlkikjeccamheaaGreatDoor
namespace Go.Proofs.YtlkikjeccamheaaGreatDoor
set_option linter.unusedSimpArgs false
set_option linter.unusedVariables false
set_option maxRecDepth 100000
set_option maxHeartbeats 4000000
section
variable {P:Program} {ops:Array Oper}
def dstAt (ops:Array Oper) (i:Nat):Option Tmp:=(ops[i]?).bind (·.dst)
def waitsOf (ops:Array Oper) (i:Nat):List Nat :=
 match ops[i]? with
 | some o=>o.after.toList.filterMap fun e=>if Region.binds .any e then some e.on else none
 | none=>[]
def putAll (ops:Array Oper) (vals:Nat→Value):List Nat→Act→Act
 | [],a=>a
 | j :: r,a=>putAll ops vals r (a.put (dstAt ops j) (vals j))
def regionOk (ops:Array Oper):Bool :=
 (List.range ops.size).all fun i =>
  match ops[i]? with
  | none=>false
  | some o =>
   (match o.op with | .select ..=>false | _=>true) &&
   (waitsOf ops i).all (·<i) &&
   (o.looksAt ops).all (fun t=>(List.range ops.size).all fun j=>dstAt ops j != some t || (waitsOf ops i).contains j || (waitsOf ops j).contains i) &&
   (match o.guard with | some (g,_)=>(waitsOf ops i).contains g | none=>true) &&
   (List.range ops.size).all fun j=>j == i || dstAt ops i == none || dstAt ops j != dstAt ops i
def deepWaits (ops:Array Oper):Nat→Nat→List Nat
 | 0,i=>waitsOf ops i
 | f+1,i=>waitsOf ops i++(waitsOf ops i).flatMap (deepWaits ops f)
theorem qbT {ops:Array Oper} {L:Nat→Prop} (hc:∀ j,L j→∀ i ∈ waitsOf ops j,L i):∀ (f j:Nat),L j→∀ i ∈ deepWaits ops f j,L i
 | 0,j,hj,i,hi=>hc j hj i hi
 | f+1,j,hj,i,hi=>by
  rcases List.mem_append.1 hi with h | h
  ·exact hc j hj i h
  ·obtain ⟨k,hk,hik⟩:=List.mem_flatMap.1 h;exact qbT hc f k (hc j hj k hk) i hik
def availAt (ops:Array Oper) (kills:Nat→Nat→Bool) (j i:Nat):Bool :=
 (waitsOf ops i).contains j && (List.range ops.size).all fun k=>k == i || k == j || !kills k j || (deepWaits ops 5 k).contains i
def availIni (ops:Array Oper) (ik:Nat→Bool) (i:Nat):Bool :=
 (List.range ops.size).all fun k=>k == i || !ik k || (deepWaits ops 5 k).contains i
def aliveAt (ops:Array Oper) (kills:Nat→Nat→Bool) (j:Nat):Bool :=
 (List.range ops.size).all fun k=>k == j || !kills k j
theorem put_size (a:Act) (d:Option Tmp) (v:Value):(a.put d v).tmps.size=a.tmps.size:=by cases d <;> simp [Act.put]
theorem qbu (a:Act) (d:Option Tmp) (v:Value):(a.put d v).defers=a.defers:=by cases d <;> rfl
theorem put_at (a:Act) (d:Tmp) (v:Value) (h:d<a.tmps.size):(a.put (some d) v).tmps[d]?=some v:=by simp [Act.put,h]
theorem qdB (a:Act) (d:Option Tmp) (v:Value) (t:Tmp) (h:d≠some t):(a.put d v).tmps[t]?=a.tmps[t]?:=by
 cases d with
 | none=>rfl
 | some d=>simp [Act.put,Array.getElem?_setIfInBounds_ne (show d≠t from fun e=>h (by rw [e]))]
structure OkAt (ops:Array Oper) (i:Nat) (o:Oper):Prop where
 sel:∀ cs b,o.op≠.select cs b
 before:∀ j ∈ waitsOf ops i,j<i
 look:∀ t ∈ o.looksAt ops,∀ j,dstAt ops j=some t→j ∈ waitsOf ops i∨i ∈ waitsOf ops j
 guard:∀ g b,o.guard=some (g,b)→g ∈ waitsOf ops i
 dist:∀ j,j≠i→∀ d,dstAt ops i=some d→dstAt ops j≠some d
theorem qdX {j:Nat} {d:Tmp} (h:dstAt ops j=some d):j<ops.size:=by
 rcases Nat.lt_or_ge j ops.size with h' | h'
 ·exact h'
 ·simp [dstAt,Array.getElem?_eq_none h'] at h
theorem okAt (hok:regionOk ops=true) {i:Nat} {o:Oper} (ho:ops[i]?=some o):OkAt ops i o:=by
 have hi:i<ops.size:=(Array.getElem?_eq_some_iff.1 ho).1;have h:=(List.all_eq_true.1 hok) i (List.mem_range.2 hi);simp only [ho,Bool.and_eq_true] at h;obtain ⟨⟨⟨⟨h1,h2⟩,h3⟩,h4⟩,h5⟩:=h;refine ⟨fun cs b e=>by simp [e] at h1,fun j hj=>by simpa using (List.all_eq_true.1 h2) j hj,fun t ht j hj=>?_,fun g b hg=>?_,fun j hj d hd=>?_⟩
 ·have:=(List.all_eq_true.1 ((List.all_eq_true.1 h3) t ht)) j (List.mem_range.2 (qdX hj))
  simpa [hj] using this
 ·rw [hg] at h4
  simpa using h4
 ·intro e;have:=(List.all_eq_true.1 h5) j (List.mem_range.2 (qdX e));simp [hj,hd,e] at this
theorem qaV (hdist:∀ i j d,i≠j→dstAt ops i=some d→dstAt ops j≠some d) (vals:Nat→Value):∀ (l:List Nat) (a:Act),
  (putAll ops vals l a).tmps.size=a.tmps.size∧(putAll ops vals l a).defers=a.defers ∧
  (∀ j ∈ l,∀ d,dstAt ops j=some d→d<a.tmps.size→(putAll ops vals l a).tmps[d]?=some (vals j)) ∧
  (∀ t,(∀ j ∈ l,dstAt ops j≠some t)→(putAll ops vals l a).tmps[t]?=a.tmps[t]?)
 | [],a=>⟨rfl,rfl,fun j hj=>by simp at hj,fun _ _=>rfl⟩
 | j :: r,a=>by
  obtain ⟨h1,h2,h3,h4⟩:=qaV hdist vals r (a.put (dstAt ops j) (vals j));simp only [putAll];refine ⟨h1.trans (put_size _ _ _),h2.trans (qbu _ _ _),fun k hk d hd hlt=>?_,fun t ht=>?_⟩
  ·by_cases hkr:k ∈ r
   ·exact h3 k hkr d hd (by rw [put_size]; exact hlt)
   ·have hkj:k=j:=by
     rcases List.mem_cons.1 hk with h | h
     ·exact h
     ·exact absurd h hkr
    subst hkj;rw [h4 d (fun m hm e=>hdist k m d (fun e'=>hkr (e'▸hm)) hd e),hd];exact put_at a d _ hlt
  ·rw [h4 t (fun m hm=>ht m (List.mem_cons_of_mem _ hm))];exact qdB a _ _ t (ht j (List.mem_cons_self ..))
def upd (vals:Nat→Value) (i:Nat) (v:Value):Nat→Value:=fun k=>if k=i then v else vals k
structure RI (ops:Array Oper) (a0:Act) (C:World→Prop) (I0:Bool→World→Prop) (ik:Bool→Nat→Bool) (F:Nat→(Nat→Value)→World→Prop) (kills:Nat→Nat→Bool) (listed:Array Bool) (a:Act) (w:World) (vals:Nat→Value):Prop where
 size:listed.size=ops.size
 tsize:a.tmps.size=a0.tmps.size
 defers:a.defers=a0.defers
 done:∀ j,listed.getD j false=true→∀ d,dstAt ops j=some d→d<a0.tmps.size→a.tmps[d]?=some (vals j)
 other:∀ t,(∀ j,listed.getD j false=true→dstAt ops j≠some t)→a.tmps[t]?=a0.tmps[t]?
 closed:∀ j,listed.getD j false=true→∀ i ∈ waitsOf ops j,listed.getD i false=true
 c:C w
 ini:∀ m,(∀ k,listed.getD k false=true→ik m k=false)→I0 m w
 facts:∀ j,listed.getD j false=true→(∀ k,listed.getD k false=true→k≠j→kills k j=false)→F j vals w
theorem mem_waits {i j:Nat} {o:Oper} (ho:ops[i]?=some o):j ∈ waitsOf ops i↔∃ e ∈ o.after,Region.binds .any e=true∧e.on=j:=by
 simp [waitsOf,ho]
theorem qa4 (l:Array Bool) (i:Nat) (h:i<l.size):(l.setIfInBounds i true).getD i false=true:=by simp [h]
theorem qaR (l:Array Bool) {i j:Nat} (h:i≠j):(l.setIfInBounds i true).getD j false=l.getD j false:=by
 simp [Array.getElem?_setIfInBounds_ne h]
def StepAt (P:Program) (ops:Array Oper) (a0:Act) (C:World→Prop) (I0:Bool→World→Prop) (ik:Bool→Nat→Bool) (F:Nat→(Nat→Value)→World→Prop) (St:Nat→World→World→Prop) (kills:Nat→Nat→Bool) (i:Nat) (o:Oper):Prop :=
 ∀ (w:World) (vals:Nat→Value),C w→(∀ m,availIni ops (ik m) i=true→I0 m w)→(∀ j,availAt ops kills j i=true→F j vals w) →
  wpList P ops (fun e a' w'=>e=.normal∧∃ v,a'=(putAll ops vals (waitsOf ops i) a0).put o.dst v∧F i (upd vals i v) w'∧C w'∧St i w w') [o] (putAll ops vals (waitsOf ops i) a0) w
theorem RI.step {a0:Act} {C:World→Prop} {I0:Bool→World→Prop} {ik:Bool→Nat→Bool} {F:Nat→(Nat→Value)→World→Prop} {St:Nat→World→World→Prop} {kills:Nat→Nat→Bool} {Q:Exit→Act→World→Prop}
  (hok:regionOk ops=true) (hini:∀ m i,ik m i=false→∀ w w',St i w w'→I0 m w→I0 m w') (hpres:∀ i k,i<ops.size→i≠k→kills i k=false→(deepWaits ops 5 k).contains i=false→∀ vals v w w',St i w w'→F k vals w→F k (upd vals i v) w')
  (hstep:∀ i o,ops[i]?=some o→StepAt P ops a0 C I0 ik F St kills i o)
  {listed:Array Bool} {a:Act} {w:World} {vals:Nat→Value} (h:RI ops a0 C I0 ik F kills listed a w vals) {i:Nat} (hi:i ∈ Region.ready .any ops listed) :
  wpOp P ops Q i (fun a' w'=>∃ vals',RI ops a0 C I0 ik F kills (listed.setIfInBounds i true) a' w' vals') a w:=by
 obtain ⟨hun,o,ho,hall⟩:=mem_ready.1 hi;have hlt:i<ops.size:=(Array.getElem?_eq_some_iff.1 ho).1;have hltl:i<listed.size:=by rw [h.size]; exact hlt
 have hunf:listed.getD i false=false:=by
  simp [hltl] at hun ⊢; exact hun
 have ok:=okAt hok ho
 have hdist:∀ i j d,i≠j→dstAt ops i=some d→dstAt ops j≠some d:=fun i j d hij hd=>by
  have hil:=qdX hd;exact (okAt hok (Array.getElem?_eq_getElem hil)).dist j (Ne.symm hij) d hd
 have hw:∀ j ∈ waitsOf ops i,listed.getD j false=true:=fun j hj=>by
  obtain ⟨e,he,hb,rfl⟩:=(mem_waits ho).1 hj;exact hall e he hb
 obtain ⟨p1,p2,p3,p4⟩:=qaV hdist vals (waitsOf ops i) a0
 have hlook:∀ t ∈ o.looksAt ops,a.tmps[t]?=(putAll ops vals (waitsOf ops i) a0).tmps[t]?:=by
  intro t ht
  by_cases hex:∃ j,dstAt ops j=some t
  ·obtain ⟨j,hj⟩:=hex
   rcases ok.look t ht j hj with hji | hij
   ·by_cases hts:t<a0.tmps.size
    ·rw [h.done j (hw j hji) t hj hts,p3 j hji t hj hts]
    ·rw [Array.getElem?_eq_none (by rw [h.tsize]; exact Nat.le_of_not_lt hts),Array.getElem?_eq_none (by rw [p1]; exact Nat.le_of_not_lt hts)]
   ·have hjl:¬ listed.getD j false=true:=fun hj'=>by rw [h.closed j hj' i hij] at hunf; cases hunf
    rw [h.other t (fun k hk e=>by
     have:k=j:=by
      rcases Nat.decEq k j with hne | he
      ·exact absurd e (hdist j k t (Ne.symm hne) hj)
      ·exact he
     subst this; exact hjl hk)]
    rw [p4 t (fun k hk e=>by
     have:k=j:=by
      rcases Nat.decEq k j with hne | he
      ·exact absurd e (hdist j k t (Ne.symm hne) hj)
      ·exact he
     subst this; exact hjl (hw k hk))]
  ·have hno:∀ j,dstAt ops j≠some t:=fun j e=>hex ⟨j,e⟩;rw [h.other t (fun j _=>hno j),p4 t (fun j _=>hno j)]
 have heval:∀ x ∈ o.op.operands,a.eval x=(putAll ops vals (waitsOf ops i) a0).eval x:=by
  intro x hx
  cases x with
  | tmp t =>
   have:=hlook t (List.mem_append_left _ (List.mem_filterMap.2 ⟨.tmp t,by simpa using hx,rfl⟩));simp only [Act.eval,Array.getD_eq_getD_getElem?,this]
  | _=>rfl
 have hexec:execOp a.eval o=execOp (putAll ops vals (waitsOf ops i) a0).eval o:=execOp_congr o ok.sel heval
 have hwant:Region.wanted o (yielded ops a.tmps)=Region.wanted o (yielded ops (putAll ops vals (waitsOf ops i) a0).tmps):=by
  unfold Region.wanted
  cases hg:o.guard with
  | none=>rfl
  | some gw =>
   obtain ⟨g,want⟩:=gw
   have:yielded ops a.tmps g=yielded ops (putAll ops vals (waitsOf ops i) a0).tmps g:=by
    unfold yielded
    cases ht:(ops[g]?).bind (·.dst) with
    | none=>rfl
    | some t =>
     have:=hlook t (by
      refine List.mem_append_right _ ?_;simp [hg,ht])
     simp only [Option.bind_some,this]
   simp only [this]
 have havail:∀ j,availAt ops kills j i=true→F j vals w:=by
  intro j hj;simp only [availAt,Bool.and_eq_true] at hj;obtain ⟨hj1,hj2⟩:=hj;have hjl:=hw j (by simpa using hj1);refine h.facts j hjl fun k hk hkj=>?_
  have hkl:k<ops.size:=by
   rcases Nat.lt_or_ge k ops.size with h' | h'
   ·exact h'
   ·rw [← h.size] at h'; simp [Array.getElem?_eq_none h'] at hk
  have:=(List.all_eq_true.1 hj2) k (List.mem_range.2 hkl);simp only [Bool.or_eq_true,beq_iff_eq,Bool.not_eq_true'] at this
  rcases this with ((this | this) | this) | this
  ·subst this; rw [hunf] at hk; cases hk
  ·exact absurd this hkj
  ·exact this
  ·have:=qbT (L:=fun j=>listed.getD j false=true) h.closed 5 k hk i (by simpa using this);simp only [hunf] at this; cases this
 have hini0:∀ m,availIni ops (ik m) i=true→I0 m w:=by
  intro m hj2;refine h.ini m fun k hk=>?_
  have hkl:k<ops.size:=by
   rcases Nat.lt_or_ge k ops.size with h' | h'
   ·exact h'
   ·rw [← h.size] at h'; simp [Array.getElem?_eq_none h'] at hk
  have:=(List.all_eq_true.1 hj2) k (List.mem_range.2 hkl);simp only [Bool.or_eq_true,beq_iff_eq,Bool.not_eq_true'] at this
  rcases this with (this | this) | this
  ·subst this; rw [hunf] at hk; cases hk
  ·exact this
  ·have:=qbT (L:=fun j=>listed.getD j false=true) h.closed 5 k hk i (by simpa using this);simp only [hunf] at this; cases this
 have hend:∀ (v:Value) (w':World),(∃ v',(putAll ops vals (waitsOf ops i) a0).put o.dst v=(putAll ops vals (waitsOf ops i) a0).put o.dst v'∧F i (upd vals i v') w'∧C w'∧St i w w') →
   ∃ vals',RI ops a0 C I0 ik F kills (listed.setIfInBounds i true) (a.put o.dst v) w' vals':=by
  rintro v w' ⟨v',hv,hF,hC,hSt⟩;have hdo:dstAt ops i=o.dst:=by simp [dstAt,ho]
  refine ⟨upd vals i v',⟨by simp [h.size],(put_size _ _ _).trans h.tsize,(qbu _ _ _).trans h.defers,?_,?_,?_,hC,?_,?_⟩⟩
  ·intro j hj d hd hlt'
   by_cases hji:j=i
   ·subst hji;rw [hdo] at hd;simp only [upd,if_true];rw [hd] at hv ⊢;rw [put_at _ _ _ (by rw [h.tsize]; exact hlt')];have:=congrArg (fun a:Act=>a.tmps[d]?) hv;rw [put_at _ _ _ (by rw [p1]; exact hlt'),put_at _ _ _ (by rw [p1]; exact hlt')] at this;exact this
   ·simp only [upd,hji,if_false];rw [qaR _ (Ne.symm hji)] at hj;rw [qdB _ _ _ _ (fun e=>hdist j i d hji hd (hdo.trans e))];exact h.done j hj d hd hlt'
  ·intro t ht;rw [qdB _ _ _ _ (fun e=>ht i (qa4 _ _ hltl) (hdo.trans e))];refine h.other t fun j hj=>?_
   by_cases hji:j=i
   ·subst hji; rw [hunf] at hj; cases hj
   ·exact ht j (by rw [qaR _ (Ne.symm hji)]; exact hj)
  ·intro j hj k hk
   by_cases hki:k=i
   ·subst hki; exact qa4 _ _ hltl
   ·rw [qaR _ (Ne.symm hki)]
    by_cases hji:j=i
    ·subst hji; exact hw k hk
    ·rw [qaR _ (Ne.symm hji)] at hj;exact h.closed j hj k hk
  ·intro m hk;refine hini m i (hk i (qa4 _ _ hltl)) _ _ hSt (h.ini m fun k hk'=>hk k ?_)
   by_cases hki:k=i
   ·subst hki; exact qa4 _ _ hltl
   ·rw [qaR _ (Ne.symm hki)]; exact hk'
  ·intro j hj hk
   by_cases hji:j=i
   ·subst hji; exact hF
   ·have hj0:=hj;rw [qaR _ (Ne.symm hji)] at hj
    refine hpres i j hlt (Ne.symm hji) (hk i (qa4 _ _ hltl) (Ne.symm hji)) (by
     by_cases hc:(deepWaits ops 5 j).contains i=true
     ·have:=qbT (L:=fun j=>listed.getD j false=true) h.closed 5 j hj i (by simpa using hc);simp only [hunf] at this; cases this
     ·simpa using hc) _ _ _ _ hSt (h.facts j hj fun k hk' hkj=>?_)
    refine hk k ?_ hkj
    by_cases hki:k=i
    ·subst hki; exact qa4 _ _ hltl
    ·rw [qaR _ (Ne.symm hki)]; exact hk'
 have hs:=hstep i o ho w vals h.c hini0 havail;unfold wpOp;simp only [ho];simp only [wpList] at hs;rw [hwant]
 split
 ·rename_i hwt
  rw [if_pos hwt] at hs
  rcases hs with hs | ⟨_,a₀,w₀,hq⟩
  case inr=>exact absurd hq.1 (by simp)
  refine .inl ?_;unfold Oper.wp at *;rw [hexec];generalize (execOp (putAll ops vals (waitsOf ops i) a0).eval o).run P w=r at *
  cases r with
  | ok n w' =>
   cases n <;> simp only [Oper.upon] at hs ⊢
   case value v=>exact hend v w' hs.2
   case skip=>exact hend _ w' hs.2
   case defer d =>
    obtain ⟨_,v,hv,_⟩:=hs;have:=congrArg Act.defers hv;rw [qbu,qbu] at this;exact absurd this (by simp)
   case enter f args =>
    refine Calls.mono hs fun e w'' he=>?_
    cases e with
    | returned v=>exact hend v w'' he.2
    | panicked c=>exact absurd he.1 (by simp)
    | outgrown=>obtain ⟨_,_,hq⟩:=he; exact absurd hq.1 (by simp)
   case row row args=>exact Rows.mono hs fun v w'' he=>hend v w'' he.2
  | halt x w' =>
   cases x <;> simp only [Oper.upon] at hs ⊢
   exact absurd hs.1 (by simp)
 ·rename_i hwt
  rw [if_neg hwt] at hs;exact hend _ _ hs.2
theorem count_set {l:Array Bool} {i:Nat} (hi:i<l.size) (hf:l.getD i false=false) {n:Nat} (hn:l.toList.countP (fun b=>!b)≤n+1):(l.setIfInBounds i true).toList.countP (fun b=>!b)≤n:=by
 have hf':l.toList[i]'(by simpa using hi)=false:=by simpa [hi] using hf
 rw [Array.toList_setIfInBounds,List.countP_set (by simpa using hi)];rw [hf',if_pos (by rfl),if_neg (by simp)];omega
theorem all_listed (hok:regionOk ops=true) {listed:Array Bool} (hs:listed.size=ops.size) (hr:Region.ready .any ops listed=[]):∀ n,∀ i,i<n→i<ops.size→listed.getD i false=true:=by
 intro n
 induction n with
 | zero=>intro i h; omega
 | succ n ih =>
  intro i hin hi
  by_cases hl:listed.getD i false=true
  ·exact hl
  ·exfalso
   have ho:ops[i]?=some ops[i]:=Array.getElem?_eq_getElem hi;have ok:=okAt hok ho
   have:i ∈ Region.ready .any ops listed:=by
    refine mem_ready.2 ⟨?_,ops[i],ho,fun e he hb=>?_⟩
    ·have:i<listed.size:=by rw [hs]; exact hi
     simp [this] at hl ⊢; exact hl
    ·have hlt:=ok.before e.on ((mem_waits ho).2 ⟨e,he,hb,rfl⟩);exact ih e.on (by omega) (by omega)
   rw [hr] at this
   cases this
theorem qa1 {id:Nat} {a0:Act} {w0:World} {Q:Exit→Act→World→Prop} (C:World→Prop) (I0:Bool→World→Prop) (ik:Bool→Nat→Bool) (F:Nat→(Nat→Value)→World→Prop) (St:Nat→World→World→Prop) (kills:Nat→Nat→Bool)
  (hm:P.follows .mixedOrders=true) (hok:regionOk ops=true) (hC:C w0.drew) (hI:∀ m,I0 m w0.drew) (hini:∀ m i,ik m i=false→∀ w w',St i w w'→I0 m w→I0 m w')
  (hpres:∀ i k,i<ops.size→i≠k→kills i k=false→(deepWaits ops 5 k).contains i=false→∀ vals v w w',St i w w'→F k vals w→F k (upd vals i v) w')
  (hstep:∀ i o,ops[i]?=some o→StepAt P ops a0 C I0 ik F St kills i o)
  (hfin:∀ w vals,C w→(∀ j,j<ops.size→aliveAt ops kills j=true→F j vals w)→Q .normal (putAll ops vals (List.range ops.size) a0) w) :
  (Code.region id ops true).wp P Q a0 w0:=by
 have hdist:∀ i j d,i≠j→dstAt ops i=some d→dstAt ops j≠some d:=fun i j d hij hd=>by
  have hil:=qdX hd;exact (okAt hok (Array.getElem?_eq_getElem hil)).dist j (Ne.symm hij) d hd
 have final:∀ listed a w vals,RI ops a0 C I0 ik F kills listed a w vals→Region.ready .any ops listed=[]→Q .normal a w:=by
  intro listed a w vals h hr;have hall:∀ j,j<ops.size→listed.getD j false=true:=fun j hj=>all_listed hok h.size hr (j+1) j (by omega) hj;obtain ⟨p1,p2,p3,p4⟩:=qaV hdist vals (List.range ops.size) a0
  have ha:a=putAll ops vals (List.range ops.size) a0:=by
   have ht:a.tmps=(putAll ops vals (List.range ops.size) a0).tmps:=by
    apply Array.ext_getElem?;intro t
    by_cases hex:∃ j,dstAt ops j=some t
    ·obtain ⟨j,hj⟩:=hex;have hjl:=qdX hj
     by_cases hts:t<a0.tmps.size
     ·rw [h.done j (hall j hjl) t hj hts,p3 j (List.mem_range.2 hjl) t hj hts]
     ·rw [Array.getElem?_eq_none (by rw [h.tsize]; exact Nat.le_of_not_lt hts),Array.getElem?_eq_none (by rw [p1]; exact Nat.le_of_not_lt hts)]
    ·have hno:∀ j,dstAt ops j≠some t:=fun j e=>hex ⟨j,e⟩;rw [h.other t (fun j _=>hno j),p4 t (fun j _=>hno j)]
   have hd:a.defers=(putAll ops vals (List.range ops.size) a0).defers:=h.defers.trans p2.symm
   cases a
   simp only at ht hd;rw [ht,hd]
  rw [ha];refine hfin w vals h.c fun j hj hal=>h.facts j (hall j hj) fun k hk hkj=>?_
  have hkl:k<ops.size:=by
   rcases Nat.lt_or_ge k ops.size with h' | h'
   ·exact h'
   ·rw [← h.size] at h'; simp [Array.getElem?_eq_none h'] at hk
  have:=(List.all_eq_true.1 hal) k (List.mem_range.2 hkl)
  simpa [hkj] using this
 refine wp_region_any hm ?_
 have key:∀ (fuel:Nat) (listed:Array Bool) (a:Act) (w:World) (vals:Nat→Value),listed.toList.countP (fun b=>!b)≤fuel→RI ops a0 C I0 ik F kills listed a w vals→wpAny P .any ops Q fuel listed a w:=by
  intro fuel
  induction fuel with
  | zero =>
   intro listed a w vals hc h
   have hr:Region.ready .any ops listed=[]:=by
    refine List.eq_nil_iff_forall_not_mem.2 fun i hi=>?_;obtain ⟨hun,o,ho,_⟩:=mem_ready.1 hi;have hlt:i<listed.size:=by rw [h.size]; exact (Array.getElem?_eq_some_iff.1 ho).1
    have h0:listed.toList.countP (fun b=>!b)=0:=by omega
    rw [List.countP_eq_zero] at h0;have:=h0 (listed[i]) (by simp);simp [hlt] at hun;simp [hun] at this
   exact ⟨hr,final listed a w vals h hr⟩
  | succ fuel ih =>
   intro listed a w vals hc h;refine ⟨fun hr=>final listed a w vals h hr,fun i hi=>?_⟩;obtain ⟨hun,o,ho,_⟩:=mem_ready.1 hi;have hlt:i<listed.size:=by rw [h.size]; exact (Array.getElem?_eq_some_iff.1 ho).1
   refine wpOp_mono (fun a' w' ⟨vals',h'⟩=>ih _ _ _ vals' (count_set hlt (by simp [hlt] at hun ⊢; exact hun) hc) h') (h.step (Q:=Q) hok hini hpres hstep hi)
 refine key _ _ _ _ (fun _=>undef) ?_ ⟨by simp,rfl,rfl,?_,?_,?_,hC,fun m _=>hI m,?_⟩
 ·have:=List.countP_le_length (p:=fun b:Bool=>!b) (l:=(Array.replicate ops.size false).toList)
  simpa using this
 ·intro j hj; simp [Array.getElem?_replicate] at hj; split at hj <;> simp at hj
 ·intro t _; rfl
 ·intro j hj; simp [Array.getElem?_replicate] at hj; split at hj <;> simp at hj
 ·intro j hj; simp [Array.getElem?_replicate] at hj; split at hj <;> simp at hj
def puts (vals:Nat→Value):List (Nat × Option Tmp)→Act→Act
 | [],a=>a
 | (j,d) :: r,a=>puts vals r (a.put d (vals j))
def GoodEnd (o:Oper) (ai:Act) (R:Value→World→Prop):Exit→Act→World→Prop:=fun e a' w'=>e=.normal∧∃ v,a'=ai.put o.dst v∧R v w'
def fct (Fs:List ((Nat→Value)→World→Prop)) (i:Nat):(Nat→Value)→World→Prop:=(Fs[i]?).getD fun _ _=>True
def stp (Sts:List (World→World→Prop)) (i:Nat):World→World→Prop:=(Sts[i]?).getD Eq
def StepsL (p:Nat→Oper→Prop):Nat→List Oper→Prop
 | _,[]=>True
 | k,o :: r=>p k o∧StepsL p (k+1) r
theorem qdp {p:Nat→Oper→Prop}:∀ {l:List Oper} {k:Nat},StepsL p k l→∀ i o,l[i]?=some o→p (k+i) o
 | [],_,_,i,o,h=>by simp at h
 | o :: r,k,h,0,o',ho=>by simp at ho; subst ho; exact h.1
 | o :: r,k,h,i+1,o',ho=>by
  have:=qdp h.2 i o' (by simpa using ho)
  rwa [show k+1+i=k+(i+1) by omega] at this
def Keeps (kill skip:Nat→Bool) (i:Nat) (S:World→World→Prop):Nat→List ((Nat→Value)→World→Prop)→Prop
 | _,[]=>True
 | k,F :: r=>(i=k∨kill k=true∨skip k=true∨∀ vals v w w',S w w'→F vals w→F (upd vals i v) w')∧Keeps kill skip i S (k+1) r
theorem keeps_spec {kill skip:Nat→Bool} {i:Nat} {S:World→World→Prop}:∀ {Fs:List ((Nat→Value)→World→Prop)} {k:Nat},Keeps kill skip i S k Fs →
  ∀ j,i≠k+j→kill (k+j)=false→skip (k+j)=false→∀ vals v w w',S w w'→fct Fs j vals w→fct Fs j (upd vals i v) w'
 | [],_,_,j,_,_,_,vals,v,w,w',_,hf=>trivial
 | F :: r,k,h,0,hj,hk,hs,vals,v,w,w',hS,hf=>by
  rcases h.1 with h1 | h1 | h1 | h1
  ·exact absurd h1 hj
  ·simp only [Nat.add_zero] at hk; rw [hk] at h1; cases h1
  ·simp only [Nat.add_zero] at hs; rw [hs] at h1; cases h1
  ·exact h1 vals v w w' hS hf
 | F :: r,k,h,j+1,hj,hk,hs,vals,v,w,w',hS,hf=>by
  have e:k+(j+1)=k+1+j:=by omega
  rw [e] at hj hk hs;exact keeps_spec h.2 j hj hk hs vals v w w' hS hf
def KeepsL (kills skips:Nat→Nat→Bool) (Fs:List ((Nat→Value)→World→Prop)):Nat→List (World→World→Prop)→Prop
 | _,[]=>True
 | i,S :: r=>Keeps (kills i) (skips i) i S 0 Fs∧KeepsL kills skips Fs (i+1) r
theorem qdQ {kills skips:Nat→Nat→Bool} {Fs:List ((Nat→Value)→World→Prop)}:∀ {Sts:List (World→World→Prop)} {i:Nat},KeepsL kills skips Fs i Sts →
  ∀ j k,i+j≠k→kills (i+j) k=false→skips (i+j) k=false→j<Sts.length→∀ vals v w w',stp Sts j w w'→fct Fs k vals w→fct Fs k (upd vals (i+j) v) w'
 | [],i,_,j,k,_,_,_,hl,_,_,_,_,_,_=>by simp at hl
 | S :: r,i,h,0,k,hj,hk,hs,_,vals,v,w,w',hS,hf=>by
  have:=keeps_spec h.1 k (by simpa using hj) (by simpa using hk) (by simpa using hs) vals v w w' hS;exact this hf
 | S :: r,i,h,j+1,k,hj,hk,hs,hl,vals,v,w,w',hS,hf=>by
  have e:i+(j+1)=i+1+j:=by omega
  rw [e] at hj hk hs ⊢;exact qdQ h.2 j k hj hk hs (by simpa using hl) vals v w w' hS hf
def IniL (ik:Nat→Bool) (I0:World→Prop):Nat→List (World→World→Prop)→Prop
 | _,[]=>True
 | i,S :: r=>(ik i=true∨∀ w w',S w w'→I0 w→I0 w')∧IniL ik I0 (i+1) r
theorem iniL_spec {ik:Nat→Bool} {I0:World→Prop}:∀ {Sts:List (World→World→Prop)} {i:Nat},IniL ik I0 i Sts→∀ j,ik (i+j)=false→∀ w w',stp Sts j w w'→I0 w→I0 w'
 | [],i,_,j,_,w,w',hS,h=>by
  have:w=w':=hS;subst this; exact h
 | S :: r,i,h,0,hj,w,w',hS,h0=>by
  rcases h.1 with h1 | h1
  ·simp only [Nat.add_zero] at hj; rw [hj] at h1; cases h1
  ·exact h1 w w' hS h0
 | S :: r,i,h,j+1,hj,w,w',hS,h0=>by
  have e:i+(j+1)=i+1+j:=by omega
  rw [e] at hj;exact iniL_spec h.2 j hj w w' hS h0
theorem qas {id:Nat} {l:List Oper} {a0:Act} {w0:World} {Q:Exit→Act→World→Prop} (C:World→Prop) (I0:Bool→World→Prop) (ik:Bool→Nat→Bool) (Fs:List ((Nat→Value)→World→Prop)) (Sts:List (World→World→Prop)) (kills:Nat→Nat→Bool) (ps:List (Nat × Option Tmp))
  (hm:P.follows .mixedOrders=true) (hok:regionOk l.toArray=true) (hlen:Sts.length=l.length) (hps:∀ vals,putAll l.toArray vals (List.range l.toArray.size) a0=puts vals ps a0) (hC:C w0.drew) (hI:∀ m,I0 m w0.drew) (hini:∀ m,IniL (ik m) (I0 m) 0 Sts)
  (hpres:KeepsL kills (fun i k=>(deepWaits l.toArray 5 k).contains i) Fs 0 Sts)
  (hstep:StepsL (StepAt P l.toArray a0 C I0 ik (fct Fs) (stp Sts) kills) 0 l)
  (hfin:∀ w vals,C w→(∀ j,j<l.toArray.size→aliveAt l.toArray kills j=true→fct Fs j vals w)→Q .normal (puts vals ps a0) w) :
  (Code.region id l.toArray true).wp P Q a0 w0 :=
 qa1 C I0 ik (fct Fs) (stp Sts) kills hm hok hC hI (fun m i hi w w' hS h=>by
   have:=iniL_spec (hini m) i (by simpa using hi) w w' hS;exact this h)
  (fun i k hil hik hk hs vals v w w' hS hf=>by
   have:=qdQ hpres i k (by simpa using hik) (by simpa using hk) (by simpa using hs) (by rw [hlen]; simpa using hil) vals v w w' hS;rw [Nat.zero_add] at this;exact this hf)
  (fun i o ho=>by
   have:=qdp hstep i o (by simpa using ho)
   simpa using this)
  (fun w vals hc hf=>by rw [hps]; exact hfin w vals hc hf)
theorem act_put (t:Array Value) (d:List Deferred) (i:Tmp) (v:Value):Act.put ⟨t,d⟩ (some i) v=⟨t.setIfInBounds i v,d⟩:=rfl
theorem act_put_none (a:Act) (v:Value):Act.put a none v=a:=rfl
def EndOf (E:Act→World→Prop):Exit→Act→World→Prop:=fun e a w=>e=.normal∧E a w
theorem EndOf.mk {E:Act→World→Prop} {a:Act} {w:World} (h:E a w):EndOf E .normal a w:=⟨rfl,h⟩
theorem qab {a0:Act} {C:World→Prop} {I0:Bool→World→Prop} {ik:Bool→Nat→Bool} {F:Nat→(Nat→Value)→World→Prop} {St:Nat→World→World→Prop} {kills:Nat→Nat→Bool} {i:Nat} {o:Oper} (ps:List (Nat × Option Tmp))
  (hps:∀ vals,putAll ops vals (waitsOf ops i) a0=puts vals ps a0) (hg:o.guard=none)
  (h:∀ w vals,C w→(∀ m,availIni ops (ik m) i=true→I0 m w)→(∀ j,availAt ops kills j i=true→F j vals w) →
   ∀ E:Act→World→Prop,(∀ v w',F i (upd vals i v) w'→C w'→St i w w'→E ((puts vals ps a0).put o.dst v) w')→wpList P #[] (EndOf E) [o] (puts vals ps a0) w) :
  StepAt P ops a0 C I0 ik F St kills i o:=by
 intro w vals hc h0 hf;have h1:=h w vals hc h0 hf (fun a' w'=>∃ v,a'=(puts vals ps a0).put o.dst v∧F i (upd vals i v) w'∧C w'∧St i w w') fun v w' h1 h2 h3=>⟨v,rfl,h1,h2,h3⟩;rw [hps];show wpList P ops (EndOf fun a' w'=>∃ v,a'=(puts vals ps a0).put o.dst v∧F i (upd vals i v) w'∧C w'∧St i w w') [o] (puts vals ps a0) w;have hw:∀ (O:Array Oper) (t:Array Value),Region.wanted o (yielded O t)=true:=fun O t=>by simp [Region.wanted,hg]
 simp only [wpList,hw,if_true] at h1 ⊢;exact h1
theorem qao {a0:Act} {C:World→Prop} {I0:Bool→World→Prop} {ik:Bool→Nat→Bool} {F:Nat→(Nat→Value)→World→Prop} {St:Nat→World→World→Prop} {kills:Nat→Nat→Bool} {i:Nat} {o:Oper} (ps:List (Nat × Option Tmp))
  (hps:∀ vals,putAll ops vals (waitsOf ops i) a0=puts vals ps a0) (g:Nat) (t:Tmp) (want:Bool) (hg:o.guard=some (g,want)) (hd:dstAt ops g=some t)
  (hyes:∀ w vals,C w→(∀ m,availIni ops (ik m) i=true→I0 m w)→(∀ j,availAt ops kills j i=true→F j vals w)→(puts vals ps a0).tmps[t]?=some (.bool want) →
   ∀ E:Act→World→Prop,(∀ v w',F i (upd vals i v) w'→C w'→St i w w'→E ((puts vals ps a0).put o.dst v) w')→wpList P #[] (EndOf E) [{ o with guard:=none }] (puts vals ps a0) w)
  (hno:∀ w vals,C w→(∀ m,availIni ops (ik m) i=true→I0 m w)→(∀ j,availAt ops kills j i=true→F j vals w)→(puts vals ps a0).tmps[t]?≠some (.bool want)→F i (upd vals i undef) w∧St i w w) :
  StepAt P ops a0 C I0 ik F St kills i o:=by
 intro w vals hc h0 hf;rw [hps];show wpList P ops (EndOf fun a' w'=>∃ v,a'=(puts vals ps a0).put o.dst v∧F i (upd vals i v) w'∧C w'∧St i w w') [o] (puts vals ps a0) w;have hd':(ops[g]?).bind (·.dst)=some t:=hd
 by_cases hy:(puts vals ps a0).tmps[t]?=some (.bool want)
 ·have h1:=hyes w vals hc h0 hf hy (fun a' w'=>∃ v,a'=(puts vals ps a0).put o.dst v∧F i (upd vals i v) w'∧C w'∧St i w w') fun v w' h1 h2 h3=>⟨v,rfl,h1,h2,h3⟩;have hw:Region.wanted o (yielded ops (puts vals ps a0).tmps)=true:=by simp [Region.wanted,hg,yielded,hd',hy]
  have hw':∀ (O:Array Oper) (t:Array Value),Region.wanted { o with guard:=none } (yielded O t)=true:=fun O t=>by simp [Region.wanted]
  simp only [wpList,hw,hw',if_true] at h1 ⊢;have he:∀ ρ,execOp ρ { o with guard:=none }=execOp ρ o:=fun ρ=>rfl;have ha:∀ a w,Oper.asks P { o with guard:=none } a w=Oper.asks P o a w:=fun a w=>rfl;rw [ha] at h1;exact h1
 ·obtain ⟨hF,hS⟩:=hno w vals hc h0 hf hy
  have hw:¬ Region.wanted o (yielded ops (puts vals ps a0).tmps)=true:=by
   simp only [Region.wanted,hg,yielded,hd',Option.bind_some,beq_iff_eq];intro e;apply hy
   split at e
   ·rename_i b hb; simp at e; subst e; exact hb
   ·cases e
  simp only [wpList,if_neg hw];exact ⟨rfl,undef,rfl,hF,hc,hS⟩
end
end Go.Proofs.YtlkikjeccamheaaGreatDoor
namespace Go.Proofs.YtlkikjeccamheaaGreatDoor
set_option linter.unusedSimpArgs false
set_option linter.unusedVariables false
set_option maxRecDepth 100000
set_option maxHeartbeats 4000000
open Go.RowKit
section
variable {P:Program}
theorem wpList_open {w:World} {ops:Array Oper} {rest:List Oper} {o:Oper} {a:Act} {Q:Exit→Act→World→Prop}
  (hw:Region.wanted o (yielded ops a.tmps)=true) (h:wpList P ops Q ({ o with guard:=none } :: rest) a w):wpList P ops Q (o :: rest) a w:=by
 have hw':∀ (O:Array Oper) (t:Array Value),Region.wanted { o with guard:=none } (yielded O t)=true:=fun O t=>by simp [Region.wanted]
 simp only [wpList,hw,hw',if_true] at h ⊢;have ha:∀ a w,Oper.asks P { o with guard:=none } a w=Oper.asks P o a w:=fun a w=>rfl;rw [ha] at h;exact h
end
end Go.Proofs.YtlkikjeccamheaaGreatDoor
namespace Go.Proofs.YtlkikjeccamheaaGreatDoor
set_option linter.unusedSimpArgs false
set_option linter.unusedVariables false
set_option maxRecDepth 100000
set_option maxHeartbeats 4000000
section
variable {P:Program}
theorem qaF (ops:Array Oper) (v1 v2:Nat→Value):∀ (l:List Nat) (a:Act),(∀ j ∈ l,v1 j=v2 j)→putAll ops v1 l a=putAll ops v2 l a
 | [],_,_=>rfl
 | j :: r,a,h=>by
  rw [putAll,putAll,h j (List.mem_cons_self ..)];exact qaF ops v1 v2 r _ fun k hk=>h k (List.mem_cons_of_mem _ hk)
def DetStep (P:Program) (ops:Array Oper) (C D:World→Prop) (Φ:(Nat→Value)→Prop) (i:Nat) (a0:Act) (o:Oper) (v:Value):Prop :=
 ∀ vals,Φ vals→∀ w,C w→∀ E:Act→World→Prop,(∀ w',D w'→E ((putAll ops vals (waitsOf ops i) a0).put o.dst v) w')→wpList P ops (EndOf E) [o] (putAll ops vals (waitsOf ops i) a0) w
def DetL (P:Program) (ops:Array Oper) (C D:World→Prop) (a0:Act) (K:((Nat→Value)→Prop)→Prop):Nat→List Oper→((Nat→Value)→Prop)→Prop
 | _,[],Φ=>K Φ
 | i,[o],Φ=>∃ v,DetStep P ops C D Φ i a0 o v∧K fun vals=>Φ vals∧vals i=v
 | i,o :: r :: rest,Φ=>∃ v,DetStep P ops C C Φ i a0 o v∧DetL P ops C D a0 K (i+1) (r :: rest) fun vals=>Φ vals∧vals i=v
theorem detL_all {ops:Array Oper} {C D:World→Prop} {a0:Act} {K:((Nat→Value)→Prop)→Prop}:∀ (rest:List Oper) (i:Nat) (Φ:(Nat→Value)→Prop),
  (∀ v1 v2:Nat→Value,(∀ j,j<i→v1 j=v2 j)→Φ v1→Φ v2)→(∃ vals,Φ vals)→DetL P ops C D a0 K i rest Φ →
  ∃ (vs:Nat→Value) (Ψ:(Nat→Value)→Prop),K Ψ∧Φ vs∧(∀ vals,(∀ j,j<i+rest.length→vals j=vs j)→Ψ vals) ∧
   ∀ j o,rest[j]?=some o→∀ vals w,C w→(∀ k,k<i+j→vals k=vs k)→∀ E:Act→World→Prop,(∀ w',(if j+1=rest.length then D w' else C w')→E ((putAll ops vals (waitsOf ops (i+j)) a0).put o.dst (vs (i+j))) w')→wpList P ops (EndOf E) [o] (putAll ops vals (waitsOf ops (i+j)) a0) w
 | [],i,Φ,hΦ,⟨v0,h0⟩,h=>⟨v0,Φ,h,h0,fun vals hv=>hΦ _ _ (fun j hj=>(hv j (by simpa using hj)).symm) h0,fun j o ho=>by simp at ho⟩
 | [o],i,Φ,hΦ,⟨v0,h0⟩,⟨v,h1,h2⟩=>by
  refine ⟨upd v0 i v,_,h2,hΦ v0 _ (fun j hj=>by simp [upd,Nat.ne_of_lt hj]) h0,fun vals hv=>⟨hΦ v0 _ (fun j hj=>?_) h0,?_⟩,fun j o' ho w=>?_⟩
  ·have:=hv j (by simp; omega);rw [this]; simp [upd,Nat.ne_of_lt hj]
  ·have:=hv i (by simp);rw [this]; simp [upd]
  ·cases j with
   | zero =>
    simp at ho;subst ho;intro w' hc hv;have hΦv:Φ w:=hΦ v0 _ (fun j hj=>by rw [hv j (by omega)]; simp [upd,Nat.ne_of_lt hj]) h0;intro E hE;refine h1 w hΦv w' hc E fun w'' hd=>?_;have:=hE w'' (by simpa using hd)
    simpa [upd] using this
   | succ j=>simp at ho
 | o :: r :: rest,i,Φ,hΦ,⟨v0,h0⟩,⟨v,h1,h2⟩=>by
  obtain ⟨vs,Ψ,k1,k2,k3,k4⟩:=detL_all (r :: rest) (i+1) (fun vals=>Φ vals∧vals i=v)
   (fun v1 v2 hv hp=>⟨hΦ v1 v2 (fun j hj=>hv j (by omega)) hp.1,by rw [← hv i (by omega)]; exact hp.2⟩)
   ⟨upd v0 i v,hΦ v0 _ (fun j hj=>by simp [upd,Nat.ne_of_lt hj]) h0,by simp [upd]⟩ h2
  refine ⟨vs,Ψ,k1,k2.1,fun vals hv=>k3 vals fun j hj=>hv j (by simp only [List.length_cons] at hj ⊢; omega),fun j o' ho vals w hc hv=>?_⟩
  cases j with
  | zero =>
   simp at ho;subst ho;have hΦv:Φ vals:=hΦ vs _ (fun j hj=>(hv j (by omega)).symm) k2.1;intro E hE;refine h1 vals hΦv w hc E fun w'' hd=>?_;have:¬ 0+1=(o :: r :: rest).length:=by simp
   have h4:=hE w'' (by rw [if_neg this]; exact hd);rw [Nat.add_zero,k2.2] at h4;exact h4
  | succ j =>
   have h3:=k4 j o' (by simpa using ho) vals w hc (fun k hk=>hv k (by omega));intro E hE;rw [show i+(j+1)=i+1+j by omega] at hE ⊢;refine h3 E fun w'' hd=>hE w'' ?_;have e:(j+1+1=(o :: r :: rest).length)=(j+1=(r :: rest).length):=by simp
   simp only [e];exact hd
theorem qaj {id:Nat} {l:List Oper} {a0:Act} {w0:World} {Q:Exit→Act→World→Prop} (C D:World→Prop) (ps:List (Nat × Option Tmp))
  (hm:P.follows .mixedOrders=true) (hok:regionOk l.toArray=true) (hpos:0<l.length)
  (hlast:((List.range (l.length - 1)).all fun i=>(deepWaits l.toArray 5 (l.length - 1)).contains i)=true)
  (hps:∀ vals,putAll l.toArray vals (List.range l.toArray.size) a0=puts vals ps a0) (hC:C w0.drew)
  (h:DetL P l.toArray C D a0 (fun Φ=>∀ vals,Φ vals→∀ w,D w→Q .normal (puts vals ps a0) w) 0 l (fun _=>True)) :
  (Code.region id l.toArray true).wp P Q a0 w0:=by
 obtain ⟨vs,Ψ,k1,_,k3,k4⟩:=detL_all (P:=P) l 0 (fun _=>True) (fun _ _ _ h=>h) ⟨fun _=>undef,trivial⟩ h
 have hafter:∀ i,i<l.length→i≠l.length - 1→(deepWaits l.toArray 5 (l.length - 1)).contains i=true:=fun i hi hne =>
  (List.all_eq_true.1 hlast) i (List.mem_range.2 (by omega))
 refine qa1 (fun _=>True) (fun _=>C) (fun _ i=>i == l.length - 1) (fun i vals w=>vals i=vs i∧(i=l.length - 1→D w)) (fun i w w'=>if i=l.length - 1 then True else (C w→C w')) (fun _ _=>false) hm hok trivial (fun _=>hC) ?_ ?_ ?_ ?_
 ·intro _ i hi w w' hS hc;have hne:¬ i=l.length - 1:=by simpa using hi
  rw [if_neg hne] at hS;exact hS hc
 ·intro i k hi hik _ hdk vals v w w' _ hF;refine ⟨by simp [upd,Ne.symm hik,hF.1],fun hk=>?_⟩;subst hk;have:=hafter i (by simpa using hi) hik;rw [this] at hdk
  cases hdk
 ·intro i o ho w vals _ hini hav;have hil:i<l.length:=by have:=(Array.getElem?_eq_some_iff.1 ho).1; simpa using this
  have hok1:=okAt hok ho
  have hcw:C w:=hini false (by
   unfold availIni;rw [List.all_eq_true];intro k hk;have hk':k<l.length:=by simpa using hk
   by_cases hki:k=i
   ·simp [hki]
   ·by_cases hkl:k=l.length - 1
    ·have:=hafter i hil (by omega);subst hkl;simp only [this,Bool.or_true]
    ·simp [hkl])
  have hvals:∀ j ∈ waitsOf l.toArray i,vals j=vs j:=fun j hj=>by
   have h1:availAt l.toArray (fun _ _=>false) j i=true:=by
    unfold availAt;simp [hj]
   exact (hav j h1).1
  have hcon:putAll l.toArray vals (waitsOf l.toArray i) a0=putAll l.toArray vs (waitsOf l.toArray i) a0:=qaF _ _ _ _ _ hvals;have h3:=k4 i o (by simpa using ho) vs w hcw (fun _ _=>rfl);rw [Nat.zero_add] at h3;rw [hcon];refine h3 (fun a' w'=>∃ v,a'=(putAll l.toArray vs (waitsOf l.toArray i) a0).put o.dst v∧(upd vals i v i=vs i∧(i=l.length - 1→D w'))∧True∧(if i=l.length - 1 then True else (C w→C w'))) fun w' hd=>?_;refine ⟨vs i,rfl,⟨by simp [upd],fun hi=>?_⟩,trivial,?_⟩
  ·rw [if_pos (by omega)] at hd; exact hd
  ·by_cases hi:i=l.length - 1
   ·rw [if_pos hi]; trivial
   ·rw [if_neg hi];intro _;rw [if_neg (by omega)] at hd; exact hd
 ·intro w vals _ hF;rw [hps];have hal:∀ j,aliveAt l.toArray (fun _ _=>false) j=true:=fun j=>by simp [aliveAt]
  have hD:D w:=(hF (l.length - 1) (by simp; omega) (hal _)).2 rfl;exact k1 vals (k3 vals fun j hj=>(hF j (by simpa using hj) (hal _)).1) w hD
def tailP (P:Program) (ops:Array Oper) (a0:Act) (Kf:(Nat→Value)→World→Prop):Nat→List Oper→(Nat→Value)→World→Prop
 | _,[],vals,w=>Kf vals w
 | i,o :: r,vals,w=>∀ E:Act→World→Prop,(∀ v w',tailP P ops a0 Kf (i+1) r (upd vals i v) w'→E ((putAll ops vals (waitsOf ops i) a0).put o.dst v) w')→wpList P ops (EndOf E) [o] (putAll ops vals (waitsOf ops i) a0) w
def mergeV (d:Nat) (vs vals:Nat→Value):Nat→Value:=fun j=>if j<d then vs j else vals j
theorem qcT {d i:Nat} (vs vals:Nat→Value) (v:Value) (h:d≤i):mergeV d vs (upd vals i v)=upd (mergeV d vs vals) i v:=by
 funext j
 unfold mergeV upd
 by_cases h1:j=i
 ·subst h1;have:¬ j<d:=by omega
  simp [this]
 ·simp [h1]
theorem wp_region_tail {id:Nat} {l:List Oper} {a0:Act} {w0:World} {Q:Exit→Act→World→Prop} (C:World→Prop) (d:Nat) (ps:List (Nat × Option Tmp))
  (hm:P.follows .mixedOrders=true) (hok:regionOk l.toArray=true) (hd:d<l.length)
  (hlast:((List.range l.length).all fun k=>decide (k<d) || (((List.range k).all fun i=>(deepWaits l.toArray 5 k).contains i) && (k == d || (waitsOf l.toArray k).contains (k - 1))))=true)
  (hps:∀ vals,putAll l.toArray vals (List.range l.toArray.size) a0=puts vals ps a0) (hC:C w0.drew)
  (h:DetL P l.toArray C C a0 (fun Φ=>∀ vals,Φ vals→∀ w,C w→tailP P l.toArray a0 (fun vals w=>Q .normal (puts vals ps a0) w) d (l.drop d) vals w) 0 (l.take d) (fun _=>True)) :
  (Code.region id l.toArray true).wp P Q a0 w0:=by
 obtain ⟨vs,Ψ,k1,_,k3,k4⟩:=detL_all (P:=P) (l.take d) 0 (fun _=>True) (fun _ _ _ h=>h) ⟨fun _=>undef,trivial⟩ h;have htl:(l.take d).length=d:=by rw [List.length_take]; omega
 rw [htl] at k4;simp only [Nat.zero_add,htl] at k3 k4
 have hdeep:∀ k,k<l.length→d≤k→∀ i,i<k→(deepWaits l.toArray 5 k).contains i=true:=fun k hk hdk i hi=>by
  have h1:=(List.all_eq_true.1 hlast) k (List.mem_range.2 hk);simp only [Bool.or_eq_true,decide_eq_true_eq,Bool.and_eq_true] at h1
  rcases h1 with h1 | h1
  ·omega
  ·exact (List.all_eq_true.1 h1.1) i (List.mem_range.2 hi)
 have hprev:∀ k,k<l.length→d<k→(waitsOf l.toArray k).contains (k - 1)=true:=fun k hk hdk=>by
  have h1:=(List.all_eq_true.1 hlast) k (List.mem_range.2 hk);simp only [Bool.or_eq_true,decide_eq_true_eq,Bool.and_eq_true,beq_iff_eq] at h1
  rcases h1 with h1 | ⟨_,h1 | h1⟩
  ·omega
  ·omega
  ·exact h1
 let Kf:(Nat→Value)→World→Prop:=fun vals w=>Q .normal (puts vals ps a0) w
 let kills:Nat→Nat→Bool:=fun i k=>decide (d≤k) && (decide (k<i) || decide (l.length≤k))
 refine qa1 (fun _=>True) (fun _=>C) (fun _ i=>decide (d≤i))
  (fun i vals w=>if i<d then vals i=vs i else tailP P l.toArray a0 Kf (i+1) (l.drop (i+1)) (mergeV d vs vals) w)
  (fun i w w'=>if d≤i then True else (C w→C w')) kills hm hok trivial (fun _=>hC) ?_ ?_ ?_ ?_
 ·intro _ i hi w w' hS hc;have hne:¬ d≤i:=by simpa using hi
  rw [if_neg hne] at hS;exact hS hc
 ·intro i k hi hik hk hdk vals v w w' _ hF
  by_cases hkd:k<d
  ·simp only [hkd,if_true] at hF ⊢;simp [upd,Ne.symm hik,hF]
  ·exfalso
   have hki:¬ k<i:=by
    intro hlt
    have h9:kills i k=true:=by
     have a1:d≤k:=by omega
     simp [kills,a1,hlt]
    rw [h9] at hk; cases hk
   have hkl:k<l.length∨l.length≤k:=Nat.lt_or_ge _ _
   rcases hkl with hkl | hkl
   ·have:=hdeep k hkl (by omega) i (by omega);rw [this] at hdk; cases hdk
   ·have h9:kills i k=true:=by
     have a1:d≤k:=by omega
     simp [kills,a1,hkl]
    rw [h9] at hk; cases hk
 ·intro i o ho w vals _ hini hav;have hil:i<l.length:=by have:=(Array.getElem?_eq_some_iff.1 ho).1; simpa using this
  have hok1:=okAt hok ho
  by_cases hid:i<d
  ·have hcw:C w:=hini false (by
    unfold availIni;rw [List.all_eq_true];intro k hk;have hk':k<l.length:=by simpa using hk
    by_cases hki:k=i
    ·simp [hki]
    ·by_cases hkd:d≤k
     ·have:=hdeep k hk' hkd i (by omega);simp only [this,Bool.or_true]
     ·simp [hkd])
   have hvals:∀ j ∈ waitsOf l.toArray i,vals j=vs j:=fun j hj=>by
    have hji:j<d:=by
     have:=hok1.before j hj;omega
    have h1:availAt l.toArray kills j i=true:=by
     unfold availAt;simp only [kills,Bool.and_eq_true];refine ⟨by simpa using hj,?_⟩;rw [List.all_eq_true];intro k _;have:¬ d≤j:=by omega
     simp [this]
    have:=hav j h1;dsimp only at this;rw [if_pos hji] at this;exact this
   have hcon:putAll l.toArray vals (waitsOf l.toArray i) a0=putAll l.toArray vs (waitsOf l.toArray i) a0:=qaF _ _ _ _ _ hvals;have ho2:(l.take d)[i]?=some o:=by rw [List.getElem?_take,if_pos hid]; simpa using ho
   have h3:=k4 i o ho2 vs w hcw (fun _ _=>rfl);rw [hcon];refine h3 _ fun w' hd'=>?_;refine ⟨vs i,rfl,?_,trivial,?_⟩
   ·dsimp only; rw [if_pos hid]; simp [upd]
   ·have hcw':C w':=by
     by_cases he:i+1=d
     ·rw [if_pos he] at hd'; exact hd'
     ·rw [if_neg he] at hd'; exact hd'
    dsimp only;rw [if_neg (by omega)];exact fun _=>hcw'
  ·have hget:l.drop i=o :: l.drop (i+1):=by
    have h1:l[i]?=some o:=by simpa using ho
    have h2:=List.drop_eq_getElem_cons hil;rw [List.getElem?_eq_getElem hil] at h1;rw [h2,Option.some.inj h1]
   have hvals:∀ j ∈ waitsOf l.toArray i,vals j=mergeV d vs vals j:=fun j hj=>by
    unfold mergeV
    split
    ·rename_i hjd
     have h1:availAt l.toArray kills j i=true:=by
      unfold availAt;simp only [kills,Bool.and_eq_true];refine ⟨by simpa using hj,?_⟩;rw [List.all_eq_true];intro k _;have:¬ d≤j:=by omega
      simp [this]
     have:=hav j h1;dsimp only at this;rw [if_pos hjd] at this;exact this
    ·rfl
   have hcon:putAll l.toArray vals (waitsOf l.toArray i) a0=putAll l.toArray (mergeV d vs vals) (waitsOf l.toArray i) a0:=qaF _ _ _ _ _ hvals
   have htail:tailP P l.toArray a0 Kf i (l.drop i) (mergeV d vs vals) w:=by
    by_cases he:i=d
    ·subst he
     have hcw:C w:=hini false (by
      unfold availIni;rw [List.all_eq_true];intro k hk;have hk':k<l.length:=by simpa using hk
      by_cases hki:k=i
      ·simp [hki]
      ·by_cases hkd:i≤k
       ·have:=hdeep k hk' hkd i (by omega);simp only [this,Bool.or_true]
       ·simp [hkd])
     exact k1 _ (k3 _ fun j hj=>by simp [mergeV,hj]) w hcw
    ·have hav1:availAt l.toArray kills (i - 1) i=true:=by
      unfold availAt;rw [Bool.and_eq_true];refine ⟨hprev i hil (by omega),?_⟩;rw [List.all_eq_true];intro k hk;have hk':k<l.length:=by simpa using hk
      by_cases hki:k=i
      ·simp [hki]
      ·by_cases hki2:i<k
       ·have:=hdeep k hk' (by omega) i hki2;simp only [this,Bool.or_true]
       ·have:¬ i - 1<k∨k=i - 1:=by omega
        rcases this with h1 | h1
        ·have h8:¬ l.length≤i - 1:=by omega
         simp [kills,h1,h8]
        ·simp [h1]
     have:=hav (i - 1) hav1;dsimp only at this;rw [if_neg (by omega),show i - 1+1=i by omega] at this;exact this
   rw [hget] at htail;rw [hcon];refine htail _ fun v w' ht=>?_;refine ⟨v,rfl,?_,trivial,?_⟩
   ·dsimp only;rw [if_neg hid,qcT _ _ _ (by omega)];exact ht
   ·dsimp only; rw [if_pos (by omega)]; trivial
 ·intro w vals _ hF;have hn1:l.length - 1<l.length:=by omega
  have halive:aliveAt l.toArray kills (l.length - 1)=true:=by
   unfold aliveAt;rw [List.all_eq_true];intro k hk;have hk':k<l.length:=by simpa using hk
   have:¬ l.length - 1<k:=by omega
   have h8:¬ l.length≤l.length - 1:=by omega
   simp [kills,this,h8]
  have h1:=hF (l.length - 1) (by simpa using hn1) halive;rw [if_neg (by omega),show l.length - 1+1=l.length by omega,List.drop_length] at h1
  have hcon:putAll l.toArray vals (List.range l.toArray.size) a0=putAll l.toArray (mergeV d vs vals) (List.range l.toArray.size) a0:=qaF _ _ _ _ _ fun j hj=>by
   unfold mergeV
   split
   ·rename_i hjd
    have hal:aliveAt l.toArray kills j=true:=by
     unfold aliveAt;rw [List.all_eq_true];intro k _;have:¬ d≤j:=by omega
     simp [kills,this]
    have:=hF j (by simpa using (List.mem_range.1 hj)) hal;rw [if_pos hjd] at this;exact this
   ·rfl
  rw [hcon,hps];exact h1
section
variable {ops:Array Oper} {C D:World→Prop} {a0:Act} {K:((Nat→Value)→Prop)→Prop} {i:Nat} {Φ:(Nat→Value)→Prop} {o:Oper}
theorem dP {v:Value} (ps:List (Nat × Option Tmp)) (hps:∀ vals,putAll ops vals (waitsOf ops i) a0=puts vals ps a0) (hg:o.guard=none)
  (h:∀ vals,Φ vals→∀ w,C w→∀ E:Act→World→Prop,(∀ w',D w'→E ((puts vals ps a0).put o.dst v) w')→wpList P #[] (EndOf E) [o] (puts vals ps a0) w):DetStep P ops C D Φ i a0 o v:=by
 intro vals hp w hc E hE;rw [hps] at hE ⊢;have h1:=h vals hp w hc E hE;have hw:∀ (O:Array Oper) (t:Array Value),Region.wanted o (yielded O t)=true:=fun O t=>by simp [Region.wanted,hg]
 simp only [wpList,hw,if_true] at h1 ⊢;exact h1
theorem dY {v:Value} (ps:List (Nat × Option Tmp)) (hps:∀ vals,putAll ops vals (waitsOf ops i) a0=puts vals ps a0) (g:Nat) (t:Tmp) (want:Bool) (hg:o.guard=some (g,want)) (hd:dstAt ops g=some t)
  (hy:∀ vals,Φ vals→(puts vals ps a0).tmps[t]?=some (.bool want))
  (h:∀ vals,Φ vals→∀ w,C w→∀ E:Act→World→Prop,(∀ w',D w'→E ((puts vals ps a0).put o.dst v) w')→wpList P #[] (EndOf E) [{ o with guard:=none }] (puts vals ps a0) w):DetStep P ops C D Φ i a0 o v:=by
 intro vals hp w hc E hE;rw [hps] at hE ⊢;have h1:=h vals hp w hc E hE;have hd':(ops[g]?).bind (·.dst)=some t:=hd;have hw:Region.wanted o (yielded ops (puts vals ps a0).tmps)=true:=by simp [Region.wanted,hg,yielded,hd',hy vals hp]
 have hw':∀ (O:Array Oper) (t:Array Value),Region.wanted { o with guard:=none } (yielded O t)=true:=fun O t=>by simp [Region.wanted]
 simp only [wpList,hw,hw',if_true] at h1 ⊢;have ha:∀ a w,Oper.asks P { o with guard:=none } a w=Oper.asks P o a w:=fun a w=>rfl;rw [ha] at h1;exact h1
theorem detStep_no (ps:List (Nat × Option Tmp)) (hps:∀ vals,putAll ops vals (waitsOf ops i) a0=puts vals ps a0) (g:Nat) (t:Tmp) (want:Bool) (hg:o.guard=some (g,want)) (hd:dstAt ops g=some t)
  (hy:∀ vals,Φ vals→(puts vals ps a0).tmps[t]?=some (.bool !want)) (hCD:∀ w,C w→D w):DetStep P ops C D Φ i a0 o undef:=by
 intro vals hp w hc E hE;rw [hps] at hE ⊢;have hd':(ops[g]?).bind (·.dst)=some t:=hd
 have hw:¬ Region.wanted o (yielded ops (puts vals ps a0).tmps)=true:=by
  simp [Region.wanted,hg,yielded,hd',hy vals hp]
 simp only [wpList,if_neg hw];exact ⟨rfl,hE w (hCD w hc)⟩
theorem tail_step {Kf:(Nat→Value)→World→Prop} {r:List Oper} {vals:Nat→Value} {w:World} (ps:List (Nat × Option Tmp)) (hps:∀ vals,putAll ops vals (waitsOf ops i) a0=puts vals ps a0) (hg:o.guard=none)
  (h:∀ E:Act→World→Prop,(∀ v w',tailP P ops a0 Kf (i+1) r (upd vals i v) w'→E ((puts vals ps a0).put o.dst v) w')→wpList P #[] (EndOf E) [o] (puts vals ps a0) w):tailP P ops a0 Kf i (o :: r) vals w:=by
 intro E hE;rw [hps] at hE ⊢;have h1:=h E hE;have hw:∀ (O:Array Oper) (t:Array Value),Region.wanted o (yielded O t)=true:=fun O t=>by simp [Region.wanted,hg]
 simp only [wpList,hw,if_true] at h1 ⊢;exact h1
theorem tail_end {Kf:(Nat→Value)→World→Prop} {vals:Nat→Value} {w:World} (h:Kf vals w):tailP P ops a0 Kf i [] vals w:=h
theorem qa2 (vals:Nat→Value) (i:Nat) (v:Value):upd vals i v i=v:=if_pos rfl
theorem upd_ne {vals:Nat→Value} {i j:Nat} {v:Value} (h:j≠i):upd vals i v j=vals j:=if_neg h
theorem yN_ {v:Value} {r:Oper} {rest:List Oper} (hs:DetStep P ops C C Φ i a0 o v) (h:DetL P ops C D a0 K (i+1) (r :: rest) fun vals=>Φ vals∧vals i=v):DetL P ops C D a0 K i (o :: r :: rest) Φ:=⟨v,hs,h⟩
theorem yL_ {v:Value} (hs:DetStep P ops C D Φ i a0 o v) (h:K fun vals=>Φ vals∧vals i=v):DetL P ops C D a0 K i [o] Φ:=⟨v,hs,h⟩
end
end
section
variable {P:Program}
def DetStepQ (P:Program) (ops:Array Oper) (C:World→Prop) (p:Bool) (Φ:(Nat→Value)→Prop) (i:Nat) (a0:Act) (o:Oper) (v:Value):Prop :=
 ∀ vals,Φ vals→∀ w,(p=false→C w)→∀ E:Act→World→Prop,(∀ w',(if p=true then w'=w else C w')→E ((putAll ops vals (waitsOf ops i) a0).put o.dst v) w')→wpList P ops (EndOf E) [o] (putAll ops vals (waitsOf ops i) a0) w
def DetQ (P:Program) (ops:Array Oper) (C:World→Prop) (pu:Nat→Bool) (a0:Act) (K:((Nat→Value)→Prop)→Prop):Nat→List Oper→((Nat→Value)→Prop)→Prop
 | _,[],Φ=>K Φ
 | i,o :: rest,Φ=>∃ v,DetStepQ P ops C (pu i) Φ i a0 o v∧DetQ P ops C pu a0 K (i+1) rest fun vals=>Φ vals∧vals i=v
theorem detQ_all {ops:Array Oper} {C:World→Prop} {pu:Nat→Bool} {a0:Act} {K:((Nat→Value)→Prop)→Prop}:∀ (rest:List Oper) (i:Nat) (Φ:(Nat→Value)→Prop),
  (∀ v1 v2:Nat→Value,(∀ j,j<i→v1 j=v2 j)→Φ v1→Φ v2)→(∃ vals,Φ vals)→DetQ P ops C pu a0 K i rest Φ →
  ∃ (vs:Nat→Value) (Ψ:(Nat→Value)→Prop),K Ψ∧Φ vs∧(∀ vals,(∀ j,j<i+rest.length→vals j=vs j)→Ψ vals) ∧
   ∀ j o,rest[j]?=some o→∀ vals w,(pu (i+j)=false→C w)→(∀ k,k<i+j→vals k=vs k)→∀ E:Act→World→Prop,(∀ w',(if pu (i+j)=true then w'=w else C w')→E ((putAll ops vals (waitsOf ops (i+j)) a0).put o.dst (vs (i+j))) w')→wpList P ops (EndOf E) [o] (putAll ops vals (waitsOf ops (i+j)) a0) w
 | [],i,Φ,hΦ,⟨v0,h0⟩,h=>⟨v0,Φ,h,h0,fun vals hv=>hΦ _ _ (fun j hj=>(hv j (by simpa using hj)).symm) h0,fun j o ho=>by simp at ho⟩
 | o :: rest,i,Φ,hΦ,⟨v0,h0⟩,⟨v,h1,h2⟩=>by
  obtain ⟨vs,Ψ,k1,k2,k3,k4⟩:=detQ_all rest (i+1) (fun vals=>Φ vals∧vals i=v)
   (fun v1 v2 hv hp=>⟨hΦ v1 v2 (fun j hj=>hv j (by omega)) hp.1,by rw [← hv i (by omega)]; exact hp.2⟩)
   ⟨upd v0 i v,hΦ v0 _ (fun j hj=>by simp [upd,Nat.ne_of_lt hj]) h0,by simp [upd]⟩ h2
  refine ⟨vs,Ψ,k1,k2.1,fun vals hv=>k3 vals fun j hj=>hv j (by simp only [List.length_cons] at hj ⊢; omega),fun j o' ho vals w hc hv=>?_⟩
  cases j with
  | zero =>
   simp at ho;subst ho;have hΦv:Φ vals:=hΦ vs _ (fun j hj=>(hv j (by omega)).symm) k2.1;intro E hE;refine h1 vals hΦv w hc E fun w'' hd=>?_;have h4:=hE w'' hd;rw [Nat.add_zero,k2.2] at h4;exact h4
  | succ j =>
   rw [show i+(j+1)=i+1+j by omega] at hc hv ⊢;exact k4 j o' (by simpa using ho) vals w hc hv
theorem qbV {id:Nat} {l:List Oper} {a0:Act} {w0:World} {Q:Exit→Act→World→Prop} (C:World→Prop) (pu:Nat→Bool) (d:Nat) (ps:List (Nat × Option Tmp))
  (hm:P.follows .mixedOrders=true) (hok:regionOk l.toArray=true) (hd:d<l.length)
  (hlast:((List.range l.length).all fun k=>decide (k<d) || (((List.range k).all fun i=>(deepWaits l.toArray 5 k).contains i || (pu i && decide (i<d))) && (k == d || (waitsOf l.toArray k).contains (k - 1))))=true)
  (hps:∀ vals,putAll l.toArray vals (List.range l.toArray.size) a0=puts vals ps a0) (hC:C w0.drew)
  (h:DetQ P l.toArray C pu a0 (fun Φ=>∀ vals,Φ vals→∀ w,C w→tailP P l.toArray a0 (fun vals w=>Q .normal (puts vals ps a0) w) d (l.drop d) vals w) 0 (l.take d) (fun _=>True)) :
  (Code.region id l.toArray true).wp P Q a0 w0:=by
 obtain ⟨vs,Ψ,k1,_,k3,k4⟩:=detQ_all (P:=P) (l.take d) 0 (fun _=>True) (fun _ _ _ h=>h) ⟨fun _=>undef,trivial⟩ h;have htl:(l.take d).length=d:=by rw [List.length_take]; omega
 simp only [Nat.zero_add,htl] at k3 k4
 have hdeep:∀ k,k<l.length→d≤k→∀ i,i<k→(deepWaits l.toArray 5 k).contains i=true∨(pu i=true∧i<d):=fun k hk hdk i hi=>by
  have h1:=(List.all_eq_true.1 hlast) k (List.mem_range.2 hk);simp only [Bool.or_eq_true,decide_eq_true_eq,Bool.and_eq_true] at h1
  rcases h1 with h1 | h1
  ·omega
  ·have h2:=(List.all_eq_true.1 h1.1) i (List.mem_range.2 hi)
   simpa only [Bool.or_eq_true,Bool.and_eq_true,decide_eq_true_eq] using h2
 have hprev:∀ k,k<l.length→d<k→(waitsOf l.toArray k).contains (k - 1)=true:=fun k hk hdk=>by
  have h1:=(List.all_eq_true.1 hlast) k (List.mem_range.2 hk);simp only [Bool.or_eq_true,decide_eq_true_eq,Bool.and_eq_true,beq_iff_eq] at h1
  rcases h1 with h1 | ⟨_,h1 | h1⟩
  ·omega
  ·omega
  ·exact h1
 let Kf:(Nat→Value)→World→Prop:=fun vals w=>Q .normal (puts vals ps a0) w
 let kills:Nat→Nat→Bool:=fun i k=>decide (d≤k) && (decide (k<i) || decide (l.length≤k))
 refine qa1 (fun _=>True) (fun _=>C) (fun _ i=>decide (d≤i))
  (fun i vals w=>if i<d then vals i=vs i else tailP P l.toArray a0 Kf (i+1) (l.drop (i+1)) (mergeV d vs vals) w)
  (fun i w w'=>if d≤i then True else if pu i=true then w'=w else (C w→C w')) kills hm hok trivial (fun _=>hC) ?_ ?_ ?_ ?_
 ·intro _ i hi w w' hS hc;have hne:¬ d≤i:=by simpa using hi
  rw [if_neg hne] at hS
  by_cases hp:pu i=true
  ·rw [if_pos hp] at hS; rw [hS]; exact hc
  ·rw [if_neg hp] at hS; exact hS hc
 ·intro i k hi hik hk hdk vals v w w' hS hF
  by_cases hkd:k<d
  ·simp only [hkd,if_true] at hF ⊢;simp [upd,Ne.symm hik,hF]
  ·have hki:¬ k<i:=by
    intro hlt
    have h9:kills i k=true:=by
     have a1:d≤k:=by omega
     simp [kills,a1,hlt]
    rw [h9] at hk; cases hk
   have hkl:k<l.length∨l.length≤k:=Nat.lt_or_ge _ _
   rcases hkl with hkl | hkl
   ·rcases hdeep k hkl (by omega) i (by omega) with h8 | ⟨h8,h7⟩
    ·rw [h8] at hdk; cases hdk
    ·simp only [hkd,if_false] at hF ⊢;rw [if_neg (by omega),if_pos h8] at hS;subst hS
     have e:mergeV d vs (upd vals i v)=mergeV d vs vals:=by
      funext j
      unfold mergeV upd
      by_cases h1:j=i
      ·subst h1; simp [h7]
      ·simp [h1]
     rw [e]; exact hF
   ·have h9:kills i k=true:=by
     have a1:d≤k:=by omega
     simp [kills,a1,hkl]
    rw [h9] at hk; cases hk
 ·intro i o ho w vals _ hini hav;have hil:i<l.length:=by have:=(Array.getElem?_eq_some_iff.1 ho).1; simpa using this
  have hok1:=okAt hok ho
  by_cases hid:i<d
  ·have hcw:pu i=false→C w:=fun hpf=>hini false (by
    unfold availIni;rw [List.all_eq_true];intro k hk;have hk':k<l.length:=by simpa using hk
    by_cases hki:k=i
    ·simp [hki]
    ·by_cases hkd:d≤k
     ·rcases hdeep k hk' hkd i (by omega) with h8 | ⟨h8,_⟩
      ·simp only [h8,Bool.or_true]
      ·rw [h8] at hpf; cases hpf
     ·simp [hkd])
   have hvals:∀ j ∈ waitsOf l.toArray i,vals j=vs j:=fun j hj=>by
    have hji:j<d:=by
     have:=hok1.before j hj;omega
    have h1:availAt l.toArray kills j i=true:=by
     unfold availAt;simp only [kills,Bool.and_eq_true];refine ⟨by simpa using hj,?_⟩;rw [List.all_eq_true];intro k _;have:¬ d≤j:=by omega
     simp [this]
    have:=hav j h1;dsimp only at this;rw [if_pos hji] at this;exact this
   have hcon:putAll l.toArray vals (waitsOf l.toArray i) a0=putAll l.toArray vs (waitsOf l.toArray i) a0:=qaF _ _ _ _ _ hvals;have ho2:(l.take d)[i]?=some o:=by rw [List.getElem?_take,if_pos hid]; simpa using ho
   have h3:=k4 i o ho2 vs w hcw (fun _ _=>rfl);rw [hcon];refine h3 _ fun w' hd'=>?_;refine ⟨vs i,rfl,?_,trivial,?_⟩
   ·dsimp only; rw [if_pos hid]; simp [upd]
   ·dsimp only;rw [if_neg (by omega)]
    by_cases hp:pu i=true
    ·rw [if_pos hp] at hd' ⊢; exact hd'
    ·rw [if_neg hp] at hd' ⊢; exact fun _=>hd'
  ·have hget:l.drop i=o :: l.drop (i+1):=by
    have h1:l[i]?=some o:=by simpa using ho
    have h2:=List.drop_eq_getElem_cons hil;rw [List.getElem?_eq_getElem hil] at h1;rw [h2,Option.some.inj h1]
   have hvals:∀ j ∈ waitsOf l.toArray i,vals j=mergeV d vs vals j:=fun j hj=>by
    unfold mergeV
    split
    ·rename_i hjd
     have h1:availAt l.toArray kills j i=true:=by
      unfold availAt;simp only [kills,Bool.and_eq_true];refine ⟨by simpa using hj,?_⟩;rw [List.all_eq_true];intro k _;have:¬ d≤j:=by omega
      simp [this]
     have:=hav j h1;dsimp only at this;rw [if_pos hjd] at this;exact this
    ·rfl
   have hcon:putAll l.toArray vals (waitsOf l.toArray i) a0=putAll l.toArray (mergeV d vs vals) (waitsOf l.toArray i) a0:=qaF _ _ _ _ _ hvals
   have htail:tailP P l.toArray a0 Kf i (l.drop i) (mergeV d vs vals) w:=by
    by_cases he:i=d
    ·subst he
     have hcw:C w:=hini false (by
      unfold availIni;rw [List.all_eq_true];intro k hk;have hk':k<l.length:=by simpa using hk
      by_cases hki:k=i
      ·simp [hki]
      ·by_cases hkd:i≤k
       ·rcases hdeep k hk' hkd i (by omega) with h8 | ⟨_,h8⟩
        ·simp only [h8,Bool.or_true]
        ·omega
       ·simp [hkd])
     exact k1 _ (k3 _ fun j hj=>by simp [mergeV,hj]) w hcw
    ·have hav1:availAt l.toArray kills (i - 1) i=true:=by
      unfold availAt;rw [Bool.and_eq_true];refine ⟨hprev i hil (by omega),?_⟩;rw [List.all_eq_true];intro k hk;have hk':k<l.length:=by simpa using hk
      by_cases hki:k=i
      ·simp [hki]
      ·by_cases hki2:i<k
       ·rcases hdeep k hk' (by omega) i hki2 with h8 | ⟨_,h8⟩
        ·simp only [h8,Bool.or_true]
        ·omega
       ·have:¬ i - 1<k∨k=i - 1:=by omega
        rcases this with h1 | h1
        ·have h8:¬ l.length≤i - 1:=by omega
         simp [kills,h1,h8]
        ·simp [h1]
     have:=hav (i - 1) hav1;dsimp only at this;rw [if_neg (by omega),show i - 1+1=i by omega] at this;exact this
   rw [hget] at htail;rw [hcon];refine htail _ fun v w' ht=>?_;refine ⟨v,rfl,?_,trivial,?_⟩
   ·dsimp only;rw [if_neg hid,qcT _ _ _ (by omega)];exact ht
   ·dsimp only; rw [if_pos (by omega)]; trivial
 ·intro w vals _ hF;have hn1:l.length - 1<l.length:=by omega
  have halive:aliveAt l.toArray kills (l.length - 1)=true:=by
   unfold aliveAt;rw [List.all_eq_true];intro k hk;have hk':k<l.length:=by simpa using hk
   have:¬ l.length - 1<k:=by omega
   have h8:¬ l.length≤l.length - 1:=by omega
   simp [kills,this,h8]
  have h1:=hF (l.length - 1) (by simpa using hn1) halive;rw [if_neg (by omega),show l.length - 1+1=l.length by omega,List.drop_length] at h1
  have hcon:putAll l.toArray vals (List.range l.toArray.size) a0=putAll l.toArray (mergeV d vs vals) (List.range l.toArray.size) a0:=qaF _ _ _ _ _ fun j hj=>by
   unfold mergeV
   split
   ·rename_i hjd
    have hal:aliveAt l.toArray kills j=true:=by
     unfold aliveAt;rw [List.all_eq_true];intro k _;have:¬ d≤j:=by omega
     simp [kills,this]
    have:=hF j (by simpa using (List.mem_range.1 hj)) hal;rw [if_pos hjd] at this;exact this
   ·rfl
  rw [hcon,hps];exact h1
section
variable {ops:Array Oper} {C D:World→Prop} {a0:Act} {K:((Nat→Value)→Prop)→Prop} {i:Nat} {Φ:(Nat→Value)→Prop} {o:Oper}
theorem dQ {v:Value} (h:DetStep P ops C C Φ i a0 o v):DetStepQ P ops C false Φ i a0 o v:=fun vals hp w hc E hE=>h vals hp w (hc rfl) E fun w' hc'=>hE w' (by simpa using hc')
theorem detStepQ_pure {v:Value} (ps:List (Nat × Option Tmp)) (hps:∀ vals,putAll ops vals (waitsOf ops i) a0=puts vals ps a0) (hg:o.guard=none)
  (h:∀ vals,Φ vals→∀ w,∀ E:Act→World→Prop,E ((puts vals ps a0).put o.dst v) w→wpList P #[] (EndOf E) [o] (puts vals ps a0) w):DetStepQ P ops C true Φ i a0 o v:=by
 intro vals hp w hc E hE;have h0:=hE w (by simp);rw [hps] at h0 ⊢;have h1:=h vals hp w E h0;have hw:∀ (O:Array Oper) (t:Array Value),Region.wanted o (yielded O t)=true:=fun O t=>by simp [Region.wanted,hg]
 simp only [wpList,hw,if_true] at h1 ⊢;exact h1
theorem DetQ.next {v:Value} {rest:List Oper} {pu:Nat→Bool} (hs:DetStepQ P ops C (pu i) Φ i a0 o v) (h:DetQ P ops C pu a0 K (i+1) rest fun vals=>Φ vals∧vals i=v):DetQ P ops C pu a0 K i (o :: rest) Φ:=⟨v,hs,h⟩
theorem DetQ.done {pu:Nat→Bool} (h:K Φ):DetQ P ops C pu a0 K i [] Φ:=h
end
end
end Go.Proofs.YtlkikjeccamheaaGreatDoor
namespace Go.Proofs.YtlkikjeccamheaaGreatDoor
set_option linter.unusedSimpArgs false
set_option linter.unusedVariables false
set_option maxRecDepth 100000
set_option maxHeartbeats 4000000
open Go.RowKit
section
variable {P:Program}
def DetStepR (P:Program) (ops:Array Oper) (C:World→Prop) (p:Bool) (Φ:(Nat→Value)→Prop) (i:Nat) (a0:Act) (o:Oper) (v:Value):Prop :=
 ∀ vals,Φ vals→∀ w,C w→∀ E:Act→World→Prop,(∀ w',(if p=true then w'=w else C w')→E ((putAll ops vals (waitsOf ops i) a0).put o.dst v) w')→wpList P ops (EndOf E) [o] (putAll ops vals (waitsOf ops i) a0) w
def DetR (P:Program) (ops:Array Oper) (C:World→Prop) (pu:Nat→Bool) (a0:Act) (K:((Nat→Value)→Prop)→Prop):Nat→List Oper→((Nat→Value)→Prop)→Prop
 | _,[],Φ=>K Φ
 | i,o :: rest,Φ=>∃ v,DetStepR P ops C (pu i) Φ i a0 o v∧DetR P ops C pu a0 K (i+1) rest fun vals=>Φ vals∧vals i=v
theorem detR_all {ops:Array Oper} {C:World→Prop} {pu:Nat→Bool} {a0:Act} {K:((Nat→Value)→Prop)→Prop}:∀ (rest:List Oper) (i:Nat) (Φ:(Nat→Value)→Prop),
  (∀ v1 v2:Nat→Value,(∀ j,j<i→v1 j=v2 j)→Φ v1→Φ v2)→(∃ vals,Φ vals)→DetR P ops C pu a0 K i rest Φ →
  ∃ (vs:Nat→Value) (Ψ:(Nat→Value)→Prop),K Ψ∧Φ vs∧(∀ vals,(∀ j,j<i+rest.length→vals j=vs j)→Ψ vals) ∧
   ∀ j o,rest[j]?=some o→∀ vals w,C w→(∀ k,k<i+j→vals k=vs k)→∀ E:Act→World→Prop,(∀ w',(if pu (i+j)=true then w'=w else C w')→E ((putAll ops vals (waitsOf ops (i+j)) a0).put o.dst (vs (i+j))) w')→wpList P ops (EndOf E) [o] (putAll ops vals (waitsOf ops (i+j)) a0) w
 | [],i,Φ,hΦ,⟨v0,h0⟩,h=>⟨v0,Φ,h,h0,fun vals hv=>hΦ _ _ (fun j hj=>(hv j (by simpa using hj)).symm) h0,fun j o ho=>by simp at ho⟩
 | o :: rest,i,Φ,hΦ,⟨v0,h0⟩,⟨v,h1,h2⟩=>by
  obtain ⟨vs,Ψ,k1,k2,k3,k4⟩:=detR_all rest (i+1) (fun vals=>Φ vals∧vals i=v)
   (fun v1 v2 hv hp=>⟨hΦ v1 v2 (fun j hj=>hv j (by omega)) hp.1,by rw [← hv i (by omega)]; exact hp.2⟩)
   ⟨upd v0 i v,hΦ v0 _ (fun j hj=>by simp [upd,Nat.ne_of_lt hj]) h0,by simp [upd]⟩ h2
  refine ⟨vs,Ψ,k1,k2.1,fun vals hv=>k3 vals fun j hj=>hv j (by simp only [List.length_cons] at hj ⊢; omega),fun j o' ho vals w hc hv=>?_⟩
  cases j with
  | zero =>
   simp at ho;subst ho;have hΦv:Φ vals:=hΦ vs _ (fun j hj=>(hv j (by omega)).symm) k2.1;intro E hE;refine h1 vals hΦv w hc E fun w'' hd=>?_;have h4:=hE w'' hd;rw [Nat.add_zero,k2.2] at h4;exact h4
  | succ j =>
   rw [show i+(j+1)=i+1+j by omega] at hv ⊢;exact k4 j o' (by simpa using ho) vals w hc hv
def tailP2 (P:Program) (ops:Array Oper) (a0:Act) (d2:Nat) (Kf:(Nat→Value)→World→Prop):Nat→List Oper→(Nat→Value)→World→Prop
 | _,[],vals,w=>Kf vals w
 | i,o :: r,vals,w=>∀ E:Act→World→Prop,(∀ v w',(i<d2→Below w.heap.size w w')→tailP2 P ops a0 d2 Kf (i+1) r (upd vals i v) w'→E ((putAll ops vals (waitsOf ops i) a0).put o.dst v) w')→wpList P ops (EndOf E) [o] (putAll ops vals (waitsOf ops i) a0) w
theorem qbw {id:Nat} {l:List Oper} {a0:Act} {w0:World} {Q:Exit→Act→World→Prop} (C:World→Prop) (pu:Nat→Bool) (d d2:Nat) (ps:List (Nat × Option Tmp))
  (hm:P.follows .mixedOrders=true) (hok:regionOk l.toArray=true) (hd:d<l.length)
  (hlast:((List.range l.length).all fun k=>decide (k<d) || (((List.range k).all fun i=>(deepWaits l.toArray 5 k).contains i || (pu i && decide (i<d) && decide (k<d2))) && (k == d || (waitsOf l.toArray k).contains (k - 1))))=true)
  (hps:∀ vals,putAll l.toArray vals (List.range l.toArray.size) a0=puts vals ps a0) (hC:C w0.drew) (hCs:∀ w w',Below w.heap.size w w'→C w→C w') (hdd:d≤d2)
  (h:DetR P l.toArray C pu a0 (fun Φ=>∀ vals,Φ vals→∀ w,C w→tailP2 P l.toArray a0 d2 (fun vals w=>Q .normal (puts vals ps a0) w) d (l.drop d) vals w) 0 (l.take d) (fun _=>True)) :
  (Code.region id l.toArray true).wp P Q a0 w0:=by
 obtain ⟨vs,Ψ,k1,_,k3,k4⟩:=detR_all (P:=P) (l.take d) 0 (fun _=>True) (fun _ _ _ h=>h) ⟨fun _=>undef,trivial⟩ h;have htl:(l.take d).length=d:=by rw [List.length_take]; omega
 simp only [Nat.zero_add,htl] at k3 k4
 have hdeep:∀ k,k<l.length→d≤k→∀ i,i<k→(deepWaits l.toArray 5 k).contains i=true∨((pu i=true∧i<d)∧k<d2):=fun k hk hdk i hi=>by
  have h1:=(List.all_eq_true.1 hlast) k (List.mem_range.2 hk);simp only [Bool.or_eq_true,decide_eq_true_eq,Bool.and_eq_true] at h1
  rcases h1 with h1 | h1
  ·omega
  ·have h2:=(List.all_eq_true.1 h1.1) i (List.mem_range.2 hi)
   simpa only [Bool.or_eq_true,Bool.and_eq_true,decide_eq_true_eq] using h2
 have hprev:∀ k,k<l.length→d<k→(waitsOf l.toArray k).contains (k - 1)=true:=fun k hk hdk=>by
  have h1:=(List.all_eq_true.1 hlast) k (List.mem_range.2 hk);simp only [Bool.or_eq_true,decide_eq_true_eq,Bool.and_eq_true,beq_iff_eq] at h1
  rcases h1 with h1 | ⟨_,h1 | h1⟩
  ·omega
  ·omega
  ·exact h1
 let Kf:(Nat→Value)→World→Prop:=fun vals w=>Q .normal (puts vals ps a0) w
 let kills:Nat→Nat→Bool:=fun i k=>decide (d≤k) && (decide (k<i) || decide (l.length≤k))
 refine qa1 (fun _=>True) (fun _=>C) (fun _ i=>decide (d2≤i))
  (fun i vals w=>if i<d then vals i=vs i else tailP2 P l.toArray a0 d2 Kf (i+1) (l.drop (i+1)) (mergeV d vs vals) w)
  (fun i w w'=>if d2≤i then True else if d≤i then (C w→C w') else if pu i=true then w'=w else (C w→C w')) kills hm hok trivial (fun _=>hC) ?_ ?_ ?_ ?_
 ·intro _ i hi w w' hS hc;have hne:¬ d2≤i:=by simpa using hi
  rw [if_neg hne] at hS
  by_cases hdi:d≤i
  ·rw [if_pos hdi] at hS; exact hS hc
  ·rw [if_neg hdi] at hS
   by_cases hp:pu i=true
   ·rw [if_pos hp] at hS; rw [hS]; exact hc
   ·rw [if_neg hp] at hS; exact hS hc
 ·intro i k hi hik hk hdk vals v w w' hS hF
  by_cases hkd:k<d
  ·simp only [hkd,if_true] at hF ⊢;simp [upd,Ne.symm hik,hF]
  ·have hki:¬ k<i:=by
    intro hlt
    have h9:kills i k=true:=by
     have a1:d≤k:=by omega
     simp [kills,a1,hlt]
    rw [h9] at hk; cases hk
   have hkl:k<l.length∨l.length≤k:=Nat.lt_or_ge _ _
   rcases hkl with hkl | hkl
   ·rcases hdeep k hkl (by omega) i (by omega) with h8 | ⟨⟨h8,h7⟩,h6⟩
    ·rw [h8] at hdk; cases hdk
    ·simp only [hkd,if_false] at hF ⊢;rw [if_neg (by omega),if_neg (by omega),if_pos h8] at hS;subst hS
     have e:mergeV d vs (upd vals i v)=mergeV d vs vals:=by
      funext j
      unfold mergeV upd
      by_cases h1:j=i
      ·subst h1; simp [h7]
      ·simp [h1]
     rw [e]; exact hF
   ·have h9:kills i k=true:=by
     have a1:d≤k:=by omega
     simp [kills,a1,hkl]
    rw [h9] at hk; cases hk
 ·intro i o ho w vals _ hini hav;have hil:i<l.length:=by have:=(Array.getElem?_eq_some_iff.1 ho).1; simpa using this
  have hok1:=okAt hok ho
  by_cases hid:i<d
  ·have hcw:C w:=hini false (by
    unfold availIni;rw [List.all_eq_true];intro k hk;have hk':k<l.length:=by simpa using hk
    by_cases hki:k=i
    ·simp [hki]
    ·by_cases hkd:d2≤k
     ·rcases hdeep k hk' (by omega) i (by omega) with h8 | ⟨_,h8⟩
      ·simp only [h8,Bool.or_true]
      ·omega
     ·simp [hkd])
   have hvals:∀ j ∈ waitsOf l.toArray i,vals j=vs j:=fun j hj=>by
    have hji:j<d:=by
     have:=hok1.before j hj;omega
    have h1:availAt l.toArray kills j i=true:=by
     unfold availAt;simp only [kills,Bool.and_eq_true];refine ⟨by simpa using hj,?_⟩;rw [List.all_eq_true];intro k _;have:¬ d≤j:=by omega
     simp [this]
    have:=hav j h1;dsimp only at this;rw [if_pos hji] at this;exact this
   have hcon:putAll l.toArray vals (waitsOf l.toArray i) a0=putAll l.toArray vs (waitsOf l.toArray i) a0:=qaF _ _ _ _ _ hvals;have ho2:(l.take d)[i]?=some o:=by rw [List.getElem?_take,if_pos hid]; simpa using ho
   have h3:=k4 i o ho2 vs w hcw (fun _ _=>rfl);rw [hcon];refine h3 _ fun w' hd'=>?_;refine ⟨vs i,rfl,?_,trivial,?_⟩
   ·dsimp only; rw [if_pos hid]; simp [upd]
   ·dsimp only;rw [if_neg (by omega),if_neg (by omega)]
    by_cases hp:pu i=true
    ·rw [if_pos hp] at hd' ⊢; exact hd'
    ·rw [if_neg hp] at hd' ⊢; exact fun _=>hd'
  ·have hget:l.drop i=o :: l.drop (i+1):=by
    have h1:l[i]?=some o:=by simpa using ho
    have h2:=List.drop_eq_getElem_cons hil;rw [List.getElem?_eq_getElem hil] at h1;rw [h2,Option.some.inj h1]
   have hvals:∀ j ∈ waitsOf l.toArray i,vals j=mergeV d vs vals j:=fun j hj=>by
    unfold mergeV
    split
    ·rename_i hjd
     have h1:availAt l.toArray kills j i=true:=by
      unfold availAt;simp only [kills,Bool.and_eq_true];refine ⟨by simpa using hj,?_⟩;rw [List.all_eq_true];intro k _;have:¬ d≤j:=by omega
      simp [this]
     have:=hav j h1;dsimp only at this;rw [if_pos hjd] at this;exact this
    ·rfl
   have hcon:putAll l.toArray vals (waitsOf l.toArray i) a0=putAll l.toArray (mergeV d vs vals) (waitsOf l.toArray i) a0:=qaF _ _ _ _ _ hvals
   have htail:tailP2 P l.toArray a0 d2 Kf i (l.drop i) (mergeV d vs vals) w:=by
    by_cases he:i=d
    ·subst he
     have hcw:C w:=hini false (by
      unfold availIni;rw [List.all_eq_true];intro k hk;have hk':k<l.length:=by simpa using hk
      by_cases hki:k=i
      ·simp [hki]
      ·by_cases hkd:d2≤k
       ·rcases hdeep k hk' (by omega) i (by omega) with h8 | ⟨_,h8⟩
        ·simp only [h8,Bool.or_true]
        ·omega
       ·simp [hkd])
     exact k1 _ (k3 _ fun j hj=>by simp [mergeV,hj]) w hcw
    ·have hav1:availAt l.toArray kills (i - 1) i=true:=by
      unfold availAt;rw [Bool.and_eq_true];refine ⟨hprev i hil (by omega),?_⟩;rw [List.all_eq_true];intro k hk;have hk':k<l.length:=by simpa using hk
      by_cases hki:k=i
      ·simp [hki]
      ·by_cases hki2:i<k
       ·rcases hdeep k hk' (by omega) i hki2 with h8 | ⟨⟨_,h8⟩,_⟩
        ·simp only [h8,Bool.or_true]
        ·omega
       ·have:¬ i - 1<k∨k=i - 1:=by omega
        rcases this with h1 | h1
        ·have h8:¬ l.length≤i - 1:=by omega
         simp [kills,h1,h8]
        ·simp [h1]
     have:=hav (i - 1) hav1;dsimp only at this;rw [if_neg (by omega),show i - 1+1=i by omega] at this;exact this
   rw [hget] at htail;rw [hcon];refine htail _ fun v w' hbw ht=>?_;refine ⟨v,rfl,?_,trivial,?_⟩
   ·dsimp only;rw [if_neg hid,qcT _ _ _ (by omega)];exact ht
   ·dsimp only
    by_cases h2:d2≤i
    ·rw [if_pos h2]; trivial
    ·rw [if_neg h2,if_pos (by omega)];exact fun hc=>hCs _ _ (hbw (by omega)) hc
 ·intro w vals _ hF;have hn1:l.length - 1<l.length:=by omega
  have halive:aliveAt l.toArray kills (l.length - 1)=true:=by
   unfold aliveAt;rw [List.all_eq_true];intro k hk;have hk':k<l.length:=by simpa using hk
   have:¬ l.length - 1<k:=by omega
   have h8:¬ l.length≤l.length - 1:=by omega
   simp [kills,this,h8]
  have h1:=hF (l.length - 1) (by simpa using hn1) halive;rw [if_neg (by omega),show l.length - 1+1=l.length by omega,List.drop_length] at h1
  have hcon:putAll l.toArray vals (List.range l.toArray.size) a0=putAll l.toArray (mergeV d vs vals) (List.range l.toArray.size) a0:=qaF _ _ _ _ _ fun j hj=>by
   unfold mergeV
   split
   ·rename_i hjd
    have hal:aliveAt l.toArray kills j=true:=by
     unfold aliveAt;rw [List.all_eq_true];intro k _;have:¬ d≤j:=by omega
     simp [kills,this]
    have:=hF j (by simpa using (List.mem_range.1 hj)) hal;rw [if_pos hjd] at this;exact this
   ·rfl
  rw [hcon,hps];exact h1
section
variable {ops:Array Oper} {C D:World→Prop} {a0:Act} {K:((Nat→Value)→Prop)→Prop} {i:Nat} {Φ:(Nat→Value)→Prop} {o:Oper}
theorem qaw {v:Value} (h:DetStep P ops C C Φ i a0 o v):DetStepR P ops C false Φ i a0 o v:=fun vals hp w hc E hE=>h vals hp w hc E fun w' hc'=>hE w' (by simpa using hc')
theorem qbh {v:Value} (ps:List (Nat × Option Tmp)) (hps:∀ vals,putAll ops vals (waitsOf ops i) a0=puts vals ps a0) (hg:o.guard=none)
  (h:∀ vals,Φ vals→∀ w,C w→∀ E:Act→World→Prop,E ((puts vals ps a0).put o.dst v) w→wpList P #[] (EndOf E) [o] (puts vals ps a0) w):DetStepR P ops C true Φ i a0 o v:=by
 intro vals hp w hc E hE;have h0:=hE w (by simp);rw [hps] at h0 ⊢;have h1:=h vals hp w hc E h0;have hw:∀ (O:Array Oper) (t:Array Value),Region.wanted o (yielded O t)=true:=fun O t=>by simp [Region.wanted,hg]
 simp only [wpList,hw,if_true] at h1 ⊢;exact h1
theorem qaS {d2:Nat} {Kf:(Nat→Value)→World→Prop} {r:List Oper} {vals:Nat→Value} {w:World} (ps:List (Nat × Option Tmp)) (hps:∀ vals,putAll ops vals (waitsOf ops i) a0=puts vals ps a0) (hg:o.guard=none)
  (h:∀ E:Act→World→Prop,(∀ v w',(i<d2→Below w.heap.size w w')→tailP2 P ops a0 d2 Kf (i+1) r (upd vals i v) w'→E ((puts vals ps a0).put o.dst v) w')→wpList P #[] (EndOf E) [o] (puts vals ps a0) w):tailP2 P ops a0 d2 Kf i (o :: r) vals w:=by
 intro E hE;rw [hps] at hE ⊢;have h1:=h E hE;have hw:∀ (O:Array Oper) (t:Array Value),Region.wanted o (yielded O t)=true:=fun O t=>by simp [Region.wanted,hg]
 simp only [wpList,hw,if_true] at h1 ⊢;exact h1
theorem qdn {d2:Nat} {Kf:(Nat→Value)→World→Prop} {vals:Nat→Value} {w:World} (h:Kf vals w):tailP2 P ops a0 d2 Kf i [] vals w:=h
theorem DetR.next {v:Value} {rest:List Oper} {pu:Nat→Bool} (hs:DetStepR P ops C (pu i) Φ i a0 o v) (h:DetR P ops C pu a0 K (i+1) rest fun vals=>Φ vals∧vals i=v):DetR P ops C pu a0 K i (o :: rest) Φ:=⟨v,hs,h⟩
theorem DetR.done {pu:Nat→Bool} (h:K Φ):DetR P ops C pu a0 K i [] Φ:=h
end
end
end Go.Proofs.YtlkikjeccamheaaGreatDoor
namespace Go.Proofs.YtlkikjeccamheaaGreatDoor
set_option linter.unusedSimpArgs false
set_option linter.unusedVariables false
open Go.RowKit
theorem sP : (∀ (l : List Value) (i : Nat) (a : Value), l.toArray.setIfInBounds i a = (l.set i a).toArray) ∧ (∀ (x : Value) (l : List Value) (a : Value), (x :: l).set 0 a = a :: l) ∧ (∀ (x : Value) (l : List Value) (i : Nat) (a : Value), (x :: l).set (i + 1) a = x :: l.set i a) ∧
    (∀ (t : Array Value) (d : List Deferred) (i : Tmp) (v : Value), Act.put ⟨t, d⟩ (some i) v = ⟨t.setIfInBounds i v, d⟩) ∧ (∀ (a : Act) (v : Value), Act.put a none v = a) ∧
    (∀ (vals : Nat → Value) (a : Act), puts vals [] a = a) ∧ (∀ (vals : Nat → Value) (j : Nat) (d : Option Tmp) (r : List (Nat × Option Tmp)) (a : Act), puts vals ((j, d) :: r) a = puts vals r (a.put d (vals j))) :=
  ⟨fun _ _ _ => List.setIfInBounds_toArray _ _ _, fun _ _ _ => rfl, fun _ _ _ _ => rfl, fun _ _ _ _ => rfl, fun _ _ => rfl, fun _ _ => rfl, fun _ _ _ _ _ => rfl⟩
theorem sIB (l : List Value) (i : Nat) (a : Value) : l.toArray.setIfInBounds i a = (l.set i a).toArray := List.setIfInBounds_toArray _ _ _
theorem sCZ {x : Value} {l : List Value} {a : Value} : (x :: l).set 0 a = a :: l := rfl
theorem sCS {x : Value} {l : List Value} {i : Nat} {a : Value} : (x :: l).set (i + 1) a = x :: l.set i a := rfl
theorem uP {vals vals' : Nat → Value} {i j : Nat} {v x : Value} (hv : upd vals i v = vals') (h : j ≠ i) (f : vals j = x) : vals' j = x := (congrFun hv j).symm.trans ((upd_ne h).trans f)
end Go.Proofs.YtlkikjeccamheaaGreatDoor
namespace Go.Proofs.YtlkikjeccamheaaGreatDoor
set_option linter.unusedSimpArgs false
set_option linter.unusedVariables false
set_option maxRecDepth 100000
set_option maxHeartbeats 4000000
open Go.ChangeShapes Go.WideShapes Go.ChangeAt Go.RowKit Go.Joins
open Go.WideMaps Go.WideElems
open Go.ChangeMaps (open_string shut_string)
theorem own:ownKnob Tryz.prog.godebug=none:=by kernel_rfl
theorem laidOut:laidOutB Tryz.prog=true:=by kernel_rfl
section
variable {H:Type} {enc:TypeId × Value→H} {P:Program}
theorem post_of_below {f:Func} {s:ChangeSpec} {apart fresh handsOn again:Bool} {W W':World} {args:Array Value} {v:Value} {ds gs:List (DataW H)} {before pa pv:List MemPlace}
  (hW:DataW.Whole enc P f.params.toList s.vars apart W args.toList ds gs before)
  (hres:∀ (b:Nat) (sp:Nat→Bool) (hd:Bool),DataW.TrodAll enc P W' b sp hd f.resultTypes.toList (v.resultList f.resultTypes.size) (s.fn H (ds++gs)).results [])
  (hargs:∀ sp:Nat→Bool,(∀ p ∈ before,sp p.block=true)→DataW.TrodAll enc P W' 0 sp true f.params.toList args.toList (s.fn H (ds++gs)).args pa)
  (hvars:∀ sp:Nat→Bool,(∀ p ∈ before,sp p.block=true)→DataW.TrodVars enc P W' sp s.vars (s.fn H (ds++gs)).vars pv)
  (hps:before=pa++pv) (hb:Below W.heap.size W W')
  (hok:∀ (j:Nat) (t:TypeId) (r:Value),f.resultTypes[j]?=some t→(v.resultList f.resultTypes.size)[j]?=some r→Value.okWide P W' .any 0 t r) :
  s.post enc P f apart fresh handsOn again W args v W':=by
 have hlt:∀ p ∈ before,p.block<W.heap.size:=fun p hp=>hW.lt p hp;have hold:∀ p ∈ before,(fun b=>decide (b<W.heap.size)) p.block=true:=fun p hp=>by simpa using hlt p hp
 refine ⟨ds,gs,before,[],pa,pv,hW,hres _ _ _,hargs _ hold,hvars _ hold,World.keptBut_mono (fun p hp=>⟨hp,?_⟩) (hb.frame (· ∈ before)),fun _=>?_⟩
 ·rw [hps,List.mem_append] at hp;exact Or.inr hp
 ·obtain ⟨_,_,_,_,_,hz,hn⟩:=hW;refine ⟨hok,_,_,([]++pa)++pv,⟨[]++pa,pv,trodAll_append (hargs _ (fun _ _=>rfl)) (hres _ _ _),hvars _ (fun _ _=>rfl),rfl,?_,?_⟩,?_⟩
  ·intro b off hp;have hin:MemPlace.cell b off ∈ before:=by rw [hps]; simpa using hp
   rw [hb.frozen (hlt _ hin)];exact hz b off hin
  ·intro ha;have:=hn ha;rw [hps] at this
   simpa using this
  ·intro p hp _;rw [hps]
   simpa using hp
theorem stays {t:TypeId} (hl:laidOutB P=true) (hr:P.readableRec t=true) (hrow:t<P.types.size) {W W':World} {v:Value} {d:DataW H} {ps:List MemPlace}
  (h:DataW.Trod enc P W 0 (fun _=>true) true t v d ps) (hb:Below W.heap.size W W') (hlt:∀ x ∈ ps,x.block<W.heap.size) {sp:Nat→Bool} (hsp:∀ x ∈ ps,sp x.block=true) :
  DataW.Trod enc P W' 0 sp true t v d ps :=
 WideElems.Trod_stays hl hr hrow h (fun x hx=>hb.same (hlt x hx)) hsp
section
variable {w:World} {base:Nat} {spare:Nat→Bool} {held:Bool}
open Go.Deep
theorem open_agg6 {r:Reach} {b0:Nat} {t:TypeId} {f0 f1 f2 f3 f4 f5:Field} {v:Value} {d:DataW H} {p:List MemPlace} (hs:P.underlying t=some (.struct #[f0,f1,f2,f3,f4,f5])) (hone:oneCellFields P #[f0,f1,f2,f3,f4,f5]=true) (hC:P.cellsOf t=6)
  (hv:Value.okWide P w r b0 t v) (h:DataW.Trod enc P w base spare held t v d p) :
  ∃ (v0 v1 v2 v3 v4 v5:Value) (y0 y1 y2 y3 y4 y5:DataW H × List MemPlace) (n:Nat),v=.agg #[v0,v1,v2,v3,v4,v5]∧d=.agg [y0.1,y1.1,y2.1,y3.1,y4.1,y5.1]∧p=y0.2++(y1.2++(y2.2++(y3.2++(y4.2++y5.2)))) ∧
   DataW.trod enc P w base spare held n f0.type [v0]=some y0∧DataW.trod enc P w base spare held n f1.type [v1]=some y1∧DataW.trod enc P w base spare held n f2.type [v2]=some y2∧DataW.trod enc P w base spare held n f3.type [v3]=some y3∧DataW.trod enc P w base spare held n f4.type [v4]=some y4∧DataW.trod enc P w base spare held n f5.type [v5]=some y5:=by
 obtain ⟨cs,rfl,hsz⟩:=okWide_struct hs hv;obtain ⟨l⟩:=cs
 match l,hsz.trans hC with
 | [c0,c1,c2,c3,c4,c5],_ =>
  obtain ⟨fuel,hf⟩:=h;obtain ⟨xs,n,_,hx,_,hlen,hg⟩:=DataW.trod_struct hs hf;obtain ⟨o0,k0⟩:=hone_of hone 0 f0 rfl;obtain ⟨o1,k1⟩:=hone_of hone 1 f1 rfl;obtain ⟨o2,k2⟩:=hone_of hone 2 f2 rfl;obtain ⟨o3,k3⟩:=hone_of hone 3 f3 rfl;obtain ⟨o4,k4⟩:=hone_of hone 4 f4 rfl;obtain ⟨o5,k5⟩:=hone_of hone 5 f5 rfl
  match xs,hlen with
  | [y0,y1,y2,y3,y4,y5],_ =>
   simp only [Prod.mk.injEq] at hx;exact ⟨c0,c1,c2,c3,c4,c5,y0,y1,y2,y3,y4,y5,n,rfl,by simpa using hx.1,by simpa using hx.2,by simpa [Value.cells,o0,k0] using hg 0 f0 rfl,by simpa [Value.cells,o1,k1] using hg 1 f1 rfl,by simpa [Value.cells,o2,k2] using hg 2 f2 rfl,by simpa [Value.cells,o3,k3] using hg 3 f3 rfl,by simpa [Value.cells,o4,k4] using hg 4 f4 rfl,by simpa [Value.cells,o5,k5] using hg 5 f5 rfl⟩
end
theorem open_strs_rd {t e:TypeId} {fuel:Nat} {cs:List Value} {x:DataW H × List MemPlace} {W:World} {base:Nat} {sp:Nat→Bool} {held:Bool} (ht:P.underlying t=some (.slice e)) (he:P.underlying e=some .string) (hc:P.cellsOf e=1)
  (h:DataW.trod enc P W base sp held fuel t cs=some x):∃ (A:Option Addr) (c:Nat) (l:List ByteArray),cs=[.slice A l.length c]∧l.length≤c∧l.length≤maxLen∧Rd W W.heap.size A (l.map Value.string)∧(∀ s ∈ l,s.size≤maxLen):=by
 rcases open_strings ht he hc h with ⟨rfl,_⟩ | ⟨a,len,cap,ss,rfl,_,hl,hm,hz,_,hcell,hs⟩
 ·exact ⟨none,0,[],rfl,Nat.le_refl _,Nat.zero_le _,Rd.nil _ _ _,fun s hs=>by simp at hs⟩
 ·have hlen:len≤ss.length:=by rw [hz]; split <;> omega
  refine ⟨some a,cap,ss.take len,by rw [List.length_take,Nat.min_eq_left hlen],by rw [List.length_take]; omega,by rw [List.length_take]; omega,fun i u hu=>?_,fun s hs'=>hs s (List.mem_of_mem_take hs')⟩;rw [List.getElem?_map] at hu;obtain ⟨s,hs1,rfl⟩:=Option.map_eq_some_iff.1 hu;have hi:i<(ss.take len).length:=(List.getElem?_eq_some_iff.1 hs1).1;rw [List.length_take] at hi;have hcl:=hcell i (by omega);rw [List.getElem?_take,if_pos (by omega)] at hs1;have e1:ss.getD i ByteArray.empty=s:=by simp [List.getD,hs1]
  rw [e1] at hcl;refine ⟨a,rfl,?_,hcl⟩;have:=World.block_lt_of_cell? W _ hcl
  rwa [qar] at this
end
end Go.Proofs.YtlkikjeccamheaaGreatDoor
namespace Go.Proofs.YtlkikjeccamheaaGreatDoor
set_option linter.unusedSimpArgs false
set_option linter.unusedVariables false
set_option maxRecDepth 100000
set_option maxHeartbeats 4000000
open Go.ChangeShapes Go.WideShapes Go.ChangeAt Go.RowKit Go.Joins
section
variable {H:Type} {enc:TypeId × Value→H} {P:Program}
theorem open_bytes_rd {t e:TypeId} {fuel:Nat} {cs:List Value} {x:DataW H × List MemPlace} {W:World} {base:Nat} {sp:Nat→Bool} {held:Bool} (ht:P.underlying t=some (.slice e)) (he:P.underlying e=some (.int .u8)) (hc:P.cellsOf e=1)
  (h:DataW.trod enc P W base sp held fuel t cs=some x):∃ (A:Option Addr) (c:Nat) (l:List UInt8),cs=[.slice A l.length c]∧l.length≤c∧l.length≤maxLen∧Rd W W.heap.size A (bytesV l):=by
 rcases open_ints ht he hc h with ⟨rfl,_⟩ | ⟨a,len,cap,zs,rfl,_,hl,hm,hz,_,hcell,hwz⟩
 ·exact ⟨none,0,[],rfl,Nat.le_refl _,Nat.zero_le _,Rd.nil _ _ _⟩
 ·have hlen:len≤zs.length:=by rw [hz]; split <;> omega
  have hl2:((zs.take len).map fun n=>UInt8.ofNat n.toNat).length=len:=by simp; omega
  refine ⟨some a,cap,(zs.take len).map fun n=>UInt8.ofNat n.toNat,by rw [hl2],by rw [hl2]; omega,by rw [hl2]; omega,fun i u hu=>?_⟩;rw [bytesV,List.getElem?_map,List.getElem?_map] at hu;obtain ⟨s,hs1,rfl⟩:=Option.map_eq_some_iff.1 hu;obtain ⟨n,hn1,rfl⟩:=Option.map_eq_some_iff.1 hs1;have hi:i<(zs.take len).length:=(List.getElem?_eq_some_iff.1 hn1).1;rw [List.length_take] at hi;have hcl:=hcell i (by omega);rw [List.getElem?_take,if_pos (by omega)] at hn1;have e1:zs.getD i 0=n:=by simp [List.getD,hn1]
  have hb:=range_u8 hwz i;rw [e1] at hcl;have e2:zs[i]?.getD 0=n:=by rw [hn1]; rfl
  rw [e2] at hb;refine ⟨a,rfl,?_,?_⟩
  ·have:=World.block_lt_of_cell? W _ hcl
   rwa [qar] at this
  ·rw [hcl,byteV]
   congr 2
   simp only [UInt8.toNat_ofNat'];omega
end
theorem cells_u8:Tryz.prog.cellsOf 5=1:=by kernel_rfl
theorem open_bytes_arg {H:Type} {enc:TypeId × Value→H} {W:World} {base:Nat} {r:Reach} {b0:Nat} {sp:Nat→Bool} {held:Bool} {v:Value} {d:DataW H} {p:List MemPlace}
  (hv:Value.okWide Tryz.prog W r b0 40 v) (h:DataW.Trod enc Tryz.prog W base sp held 40 v d p) :
  ∃ (l:List UInt8) (A:Option Addr) (c:Nat),v=.slice A l.length c∧Rd W W.heap.size A (bytesV l)∧l.length≤c∧l.length≤9223372036854775807:=by
 obtain ⟨a1,len,cap,rfl⟩:=okWide_slice Tryz.underlying40 hv;obtain ⟨fuel,hf⟩:=h;obtain ⟨A,c,l,e,h1,h2,h3⟩:=open_bytes_rd Tryz.underlying40 Tryz.underlying5 cells_u8 hf;simp [Value.cells] at e;obtain ⟨rfl,rfl,rfl⟩:=e;simp only [maxLen] at h2;exact ⟨l,_,_,rfl,h3,h1,by omega⟩
end Go.Proofs.YtlkikjeccamheaaGreatDoor
namespace Go.Proofs.YtlkikjeccamheaaGreatDoor
set_option linter.unusedSimpArgs false
set_option linter.unusedVariables false
set_option maxRecDepth 100000
set_option maxHeartbeats 4000000
open Go.RowKit
section
variable (a b:Nat)
theorem xor64 (ha:a<18446744073709551616) (hb:b<18446744073709551616):bits .xor .u64 (a:Int) (b:Int)=((a ^^^ b:Nat):Int):=by
 show IntKind.u64.wrap ((BitVec.ofInt 64 (a:Int) ^^^ BitVec.ofInt 64 (b:Int)).toNat:Int)=_;have h:=Nat.xor_lt_two_pow (n:=64) (x:=a) (y:=b) ha hb;rw [BitVec.toNat_xor,BitVec.ofInt_natCast,BitVec.ofInt_natCast,BitVec.toNat_ofNat,BitVec.toNat_ofNat,Nat.mod_eq_of_lt ha,Nat.mod_eq_of_lt hb,IntKind.wrap_u64];omega
theorem and64 (ha:a<18446744073709551616) (hb:b<18446744073709551616):bits .and .u64 (a:Int) (b:Int)=((a &&& b:Nat):Int):=by
 show IntKind.u64.wrap ((BitVec.ofInt 64 (a:Int) &&& BitVec.ofInt 64 (b:Int)).toNat:Int)=_;have h:a &&& b≤a:=Nat.and_le_left;rw [BitVec.toNat_and,BitVec.ofInt_natCast,BitVec.ofInt_natCast,BitVec.toNat_ofNat,BitVec.toNat_ofNat,Nat.mod_eq_of_lt ha,Nat.mod_eq_of_lt hb,IntKind.wrap_u64];omega
theorem or32 (ha:a<4294967296) (hb:b<4294967296):bits .or .u32 (a:Int) (b:Int)=((a ||| b:Nat):Int):=by
 show IntKind.u32.wrap ((BitVec.ofInt 32 (a:Int) ||| BitVec.ofInt 32 (b:Int)).toNat:Int)=_;have h:=Nat.or_lt_two_pow (n:=32) (x:=a) (y:=b) ha hb;rw [BitVec.toNat_or,BitVec.ofInt_natCast,BitVec.ofInt_natCast,BitVec.toNat_ofNat,BitVec.toNat_ofNat,Nat.mod_eq_of_lt ha,Nat.mod_eq_of_lt hb,IntKind.wrap_u32];omega
theorem xor32 (ha:a<4294967296) (hb:b<4294967296):bits .xor .u32 (a:Int) (b:Int)=((a ^^^ b:Nat):Int):=by
 show IntKind.u32.wrap ((BitVec.ofInt 32 (a:Int) ^^^ BitVec.ofInt 32 (b:Int)).toNat:Int)=_;have h:=Nat.xor_lt_two_pow (n:=32) (x:=a) (y:=b) ha hb;rw [BitVec.toNat_xor,BitVec.ofInt_natCast,BitVec.ofInt_natCast,BitVec.toNat_ofNat,BitVec.toNat_ofNat,Nat.mod_eq_of_lt ha,Nat.mod_eq_of_lt hb,IntKind.wrap_u32];omega
theorem and32 (ha:a<4294967296) (hb:b<4294967296):bits .and .u32 (a:Int) (b:Int)=((a &&& b:Nat):Int):=by
 show IntKind.u32.wrap ((BitVec.ofInt 32 (a:Int) &&& BitVec.ofInt 32 (b:Int)).toNat:Int)=_;have h:a &&& b≤a:=Nat.and_le_left;rw [BitVec.toNat_and,BitVec.ofInt_natCast,BitVec.ofInt_natCast,BitVec.toNat_ofNat,BitVec.toNat_ofNat,Nat.mod_eq_of_lt ha,Nat.mod_eq_of_lt hb,IntKind.wrap_u32];omega
theorem wrap64n (a:Nat):IntKind.u64.wrap (a:Int)=((a%18446744073709551616:Nat):Int):=by rw [IntKind.wrap_u64]; omega
theorem wrap32n (a:Nat):IntKind.u32.wrap (a:Int)=((a%4294967296:Nat):Int):=by rw [IntKind.wrap_u32]; omega
end
theorem qa3 {k:IntKind} {a b:Int} (h:a=b):Ending.returned (.int k a)=.returned (.int k b):=by rw [h]
theorem qcb {B:Nat} {a w:World} (h:Below B a w) (n:Nat):Below B a (w.drewN n):=⟨h.os,h.tape,h.output,h.size,h.block⟩
theorem sum64w (x y:Nat):IntKind.u64.wrap ((x:Int)+(y:Int))=(((x+y)%18446744073709551616:Nat):Int):=by rw [IntKind.wrap_u64]; omega
theorem sum32f (a b x y:Nat):(((a:Int)+(b:Int))%4294967296+((x:Int)+(y:Int))%4294967296)%4294967296=(((a+b+(x+y))%2^32:Nat):Int):=by omega
theorem qcc (a b:Nat):((a:Int)+(b:Int))%4294967296=(((a+b)%2^32:Nat):Int):=by omega
theorem qbB (a b:Nat):IntKind.u64.wrap ((a:Int)+(b:Int))=(((a+b)%2^64:Nat):Int):=by rw [IntKind.wrap_u64]; omega
theorem qcm {a b m:Nat} (h:a<m):a &&& b<m:=Nat.lt_of_le_of_lt Nat.and_le_left h
theorem or_shl8 (x z:Nat) (hz:z<256):x*256 ||| z=x*256+z:=by
 have:=Nat.two_pow_add_eq_or_of_lt (i:=8) (b:=z) hz x;rw [show 2^8*x=x*256 by omega] at this;exact this.symm
theorem or_byte32 (x z:Nat) (hx:x<16777216) (hz:z<256):bits .or .u32 ((x:Int)*256%4294967296) (z:Int)=((x*256+z:Nat):Int):=by
 rw [show (x:Int)*256%4294967296=((x*256:Nat):Int) by omega,or32 _ _ (by omega) (by omega),or_shl8 x z hz]
def rotN (b x n:Nat):Nat:=x/2^n ||| x*2^(b - n)%2^b
theorem rotN_lt {b x n:Nat} (hx:x<2^b):rotN b x n<2^b :=
 Nat.or_lt_two_pow (Nat.lt_of_le_of_lt (Nat.div_le_self _ _) hx) (Nat.mod_lt _ (Nat.two_pow_pos _))
def turnedN (b x n:Nat):Nat:=if b=32 then rotN 32 (x%4294967296) n else rotN 64 x n
theorem qaL {b x n:Nat} (hx:x<18446744073709551616):turnedN b x n<18446744073709551616:=by
 unfold turnedN
 split
 ·have:=rotN_lt (b:=32) (x:=x%4294967296) (n:=n) (Nat.mod_lt _ (by decide));omega
 ·exact rotN_lt (b:=64) hx
def lastN (b x c:Nat) (shift:Bool):Nat:=if shift then x/2^c else turnedN b x c
theorem qdf {b x c:Nat} {shift:Bool} (hx:x<18446744073709551616):lastN b x c shift<18446744073709551616:=by
 unfold lastN
 split
 ·exact Nat.lt_of_le_of_lt (Nat.div_le_self _ _) hx
 ·exact qaL hx
def allN (b x p q c:Nat) (shift:Bool):Nat:=turnedN b x p ^^^ turnedN b x q ^^^ lastN b x c shift
theorem qc8 {a b:Nat} (ha:a<18446744073709551616) (hb:b<18446744073709551616):a ^^^ b<18446744073709551616:=Nat.xor_lt_two_pow (n:=64) ha hb
theorem allN_lt {b x p q c:Nat} {shift:Bool} (hx:x<18446744073709551616):allN b x p q c shift<18446744073709551616 :=
 qc8 (qc8 (qaL hx) (qaL hx)) (qdf hx)
theorem pow_int (n:Nat):(2:Int)^n=((2^n:Nat):Int):=by simp
theorem shr_int (x n:Nat):(x:Int)/2^n=((x/2^n:Nat):Int):=by rw [pow_int]; simp
theorem shl_int (x n:Nat):(x:Int)*2^n=((x*2^n:Nat):Int):=by rw [pow_int]; simp
theorem rot_walk32 (x n:Nat) (hx:x<4294967296):bits .or .u32 ((x:Int)/2^n) (IntKind.u32.wrap ((x:Int)*2^(32 - n)))=(rotN 32 x n:Int):=by
 rw [shr_int,shl_int,wrap32n,or32 _ _ (Nat.lt_of_le_of_lt (Nat.div_le_self _ _) hx) (Nat.mod_lt _ (by decide))];rfl
theorem rot_walk32' (x n:Nat):IntKind.u64.wrap (bits .or .u32 ((x:Int)%4294967296/2^n) ((x:Int)%4294967296*2^(32 - n)%4294967296))=(turnedN 32 x n:Int):=by
 have h:=rot_walk32 (x%4294967296) n (Nat.mod_lt _ (by decide));rw [IntKind.wrap_u32] at h;rw [show (x:Int)%4294967296=((x%4294967296:Nat):Int) by omega,h,wrap64n];have h2:=rotN_lt (b:=32) (x:=x%4294967296) (n:=n) (Nat.mod_lt _ (by decide));rw [Nat.mod_eq_of_lt (by omega)];rfl
end Go.Proofs.YtlkikjeccamheaaGreatDoor
namespace Go.Proofs.YtlkikjeccamheaaGreatDoor.Sh
set_option linter.unusedSimpArgs false
set_option linter.unusedVariables false
set_option maxRecDepth 100000
set_option maxHeartbeats 4000000
open Go.RowKit
def beN (l:List UInt8):Nat:=l.foldl (fun n c=>n*256+c.toNat) 0
theorem beN_snoc (l:List UInt8) (c:UInt8):beN (l++[c])=beN l*256+c.toNat:=by simp [beN]
theorem foldl_fromN (x:Nat) (c:List UInt8):c.foldl (fun n c=>n*256+c.toNat) x=x*256^c.length+beN c:=by
 induction c generalizing x with
 | nil=>simp [beN]
 | cons z c ih =>
  have e:beN (z :: c)=c.foldl (fun n c=>n*256+c.toNat) z.toNat:=by simp [beN]
  rw [List.foldl_cons,ih,e,ih,List.length_cons,Nat.pow_succ,Nat.add_mul,Nat.mul_assoc,Nat.mul_comm 256,Nat.add_assoc]
theorem beN_append (a c:List UInt8):beN (a++c)=beN a*256^c.length+beN c:=by
 rw [beN,List.foldl_append,foldl_fromN]; rfl
theorem beN_lt (l:List UInt8):beN l<256^l.length:=by
 induction l with
 | nil=>simp [beN]
 | cons z l ih =>
  have e:=beN_append [z] l;have hz:=z.toNat_lt;have e1:beN [z]=z.toNat:=by simp [beN]
  rw [show z :: l=[z]++l from rfl,e,e1,List.length_append,List.length_singleton,Nat.pow_add,Nat.pow_one];have:z.toNat*256^l.length≤255*256^l.length:=Nat.mul_le_mul_right _ (by omega);omega
structure ShaF where
 bits:Nat
 many:Nat
 s0:Nat × Nat × Nat
 s1:Nat × Nat × Nat
 t0:Nat × Nat × Nat
 t1:Nat × Nat × Nat
def F32:ShaF:=⟨32,64,(2,13,22),(6,11,25),(7,18,3),(17,19,10)⟩
def allF (F:ShaF) (x:Nat) (p:Nat × Nat × Nat) (shift:Bool):Nat:=allN F.bits x p.1 p.2.1 p.2.2 shift
def pieceN (e:Nat) (blk:List UInt8) (t:Nat):Nat:=beN ((blk.drop (t*e)).take e)
def nextW (F:ShaF) (r:List Nat) (t:Nat):Nat :=
 (r.getD (t - 16) 0+r.getD (t - 7) 0+(allF F (r.getD (t - 15) 0) F.t0 true+allF F (r.getD (t - 2) 0) F.t1 true))%2^F.bits
def rowW (F:ShaF) (blk:List UInt8):Nat→List Nat
 | 0=>[]
 | t+1=>rowW F blk t++[if t<16 then pieceN (F.bits/8) blk t else nextW F (rowW F blk t) t]
theorem qaQ (F:ShaF) (blk:List UInt8):∀ t,(rowW F blk t).length=t
 | 0=>rfl
 | t+1=>by simp [rowW,qaQ F blk t]
theorem pieceN_lt (e:Nat) (blk:List UInt8) (t:Nat):pieceN e blk t<256^e:=by
 have h:=beN_lt ((blk.drop (t*e)).take e);have h2:((blk.drop (t*e)).take e).length≤e:=List.length_take_le _ _;exact Nat.lt_of_lt_of_le h (Nat.pow_le_pow_right (by omega) h2)
theorem qdw (F:ShaF) (hb:256^(F.bits/8)=2^F.bits) (blk:List UInt8):∀ t,∀ x ∈ rowW F blk t,x<2^F.bits
 | 0,x,hx=>by simp [rowW] at hx
 | t+1,x,hx=>by
  simp only [rowW,List.mem_append,List.mem_singleton] at hx
  rcases hx with hx | rfl
  ·exact qdw F hb blk t x hx
  ·split
   ·rw [← hb]; exact pieceN_lt _ _ _
   ·exact Nat.mod_lt _ (Nat.two_pow_pos _)
theorem qb6 {l:List Nat} {b:Nat} (h:∀ x ∈ l,x<b) (hb:0<b) (i:Nat):l.getD i 0<b:=by
 by_cases hi:i<l.length
 ·rw [List.getD_eq_getElem?_getD,List.getElem?_eq_getElem hi]; exact h _ (List.getElem_mem hi)
 ·rw [List.getD_eq_getElem?_getD,List.getElem?_eq_none (by omega)]; exact hb
def wordsV (K:IntKind) (l:List Nat):List Value:=l.map fun n:Nat=>Value.int K (n:Int)
theorem qaC (K:IntKind) (l:List Nat):(wordsV K l).length=l.length:=by simp [wordsV]
def rowC (K:IntKind) (l:List Nat) (m:Nat):Array Value:=(wordsV K l++List.replicate m (Value.int K 0)).toArray
def rowP (K:IntKind) (l:List Nat) (x m:Nat):Array Value:=(wordsV K l++(Value.int K (x:Int)) :: List.replicate m (Value.int K 0)).toArray
theorem rowC_start (K:IntKind) (l:List Nat) (m:Nat):rowC K l (m+1)=rowP K l 0 m:=by simp [rowC,rowP,List.replicate_succ]
theorem rowP_end (K:IntKind) (l:List Nat) (x m:Nat):rowP K l x m=rowC K (l++[x]) m:=by simp [rowC,rowP,wordsV]
theorem rowP_size (K:IntKind) (l:List Nat) (x m:Nat):(rowP K l x m).size=l.length+m+1:=by simp [rowP,wordsV]; omega
theorem rowP_at (K:IntKind) (l:List Nat) (x m:Nat):(rowP K l x m)[l.length]?=some (Value.int K (x:Int)):=by
 simp [rowP,wordsV]
theorem rowP_set (K:IntKind) (l:List Nat) (x y m:Nat):(rowP K l x m).setIfInBounds l.length (Value.int K (y:Int))=rowP K l y m:=by
 apply Array.ext';simp [rowP,Array.toList_setIfInBounds,wordsV,List.set_append]
theorem rowC_get (K:IntKind) (l:List Nat) (m i:Nat) (h:i<l.length):(rowC K l m)[i]?=some (Value.int K ((l.getD i 0:Nat):Int)):=by
 simp [rowC,wordsV,List.getElem?_append,h]
theorem qda (K:IntKind) (l:List Nat) (x m i:Nat) (h:i<l.length):(rowP K l x m)[i]?=some (Value.int K ((l.getD i 0:Nat):Int)):=by
 rw [rowP_end,rowC_get K _ _ i (by simp; omega)];simp [List.getElem?_append,h]
def stepsN:List Nat:=[4794697086780616226,8158064640168781261,13096744586834688815,16840607885511220156,4131703408338449720,6480981068601479193,10538285296894168987,12329834152419229976,15566598209576043074,1334009975649890238,2608012711638119052,6128411473006802146,8268148722764581231,9286055187155687089,11230858885718282805,13951009754708518548,16472876342353939154,17275323862435702243,1135362057144423861,2597628984639134821,3308224258029322869,5365058923640841347,6679025012923562964,8573033837759648693,10970295158949994411,12119686244451234320,12683024718118986047,13788192230050041572,14330467153632333762,15395433587784984357,489312712824947311,1452737877330783856,2861767655752347644,3322285676063803686,5560940570517711597,5996557281743188959,7280758554555802590,8532644243296465576,9350256976987008742,10552545826968843579,11727347734174303076,12113106623233404929,14000437183269869457,14369950271660146224,15101387698204529176,15463397548674623760,17586052441742319658,1182934255886127544,1847814050463011016,2177327727835720531,2830643537854262169,3796741975233480872,4115178125766777443,5681478168544905931,6601373596472566643,7507060721942968483,8399075790359081724,8693463985226723168,9568029438360202098,10144078919501101548,10430055236837252648,11840083180663258601,13761210420658862357,14299343276471374635,14566680578165727644,15097957966210449927,16922976911328602910,17689382322260857208,500013540394364858,748580250866718886,1242879168328830382,1977374033974150939,2944078676154940804,3659926193048069267,4368137639120453308,4836135668995329356,5532061633213252278,6448918945643986474,6902733635092675308,7801388544844847127]
theorem stepsN_length:stepsN.length=80:=by decide +kernel
theorem stepsN_all:(stepsN.all fun x=>decide (x<18446744073709551616))=true:=by decide +kernel
theorem stepsN_lt (i:Nat):stepsN.getD i 0<18446744073709551616 :=
 qb6 (fun x hx=>by simpa using (List.all_eq_true.1 stepsN_all) x hx) (by decide) i
def kN (F:ShaF) (t:Nat):Nat:=stepsN.getD t 0/2^(64 - F.bits)%2^F.bits
structure S8 where
 a:Nat
 b:Nat
 c:Nat
 d:Nat
 e:Nat
 f:Nat
 g:Nat
 h:Nat
structure S8.Lt (s:S8) (m:Nat):Prop where
 a:s.a<m
 b:s.b<m
 c:s.c<m
 d:s.d<m
 e:s.e<m
 f:s.f<m
 g:s.g<m
 h:s.h<m
def mixX (F:ShaF) (s:S8) (k w:Nat):Nat:=(s.h+allF F s.e F.s1 false+((s.e &&& s.f) ^^^ ((2^F.bits - 1 - s.e) &&& s.g))+k+w)%2^F.bits
def mixY (F:ShaF) (s:S8):Nat:=(allF F s.a F.s0 false+((s.a &&& s.b) ^^^ (s.a &&& s.c) ^^^ (s.b &&& s.c)))%2^F.bits
theorem mixX_32 (h al ch k w:Nat):(h+al+ch+k+w)%2^32=((((h+al%4294967296)%2^32+ch)%2^32+k)%2^32+w)%2^32:=by omega
theorem mixY_32 (al mj:Nat):(al+mj)%2^32=(al%4294967296+mj)%2^32:=by omega
def stepS (F:ShaF) (s:S8) (k w:Nat):S8:=⟨(mixX F s k w+mixY F s)%2^F.bits,s.a,s.b,s.c,(s.d+mixX F s k w)%2^F.bits,s.e,s.f,s.g⟩
def mixTo (F:ShaF) (r:List Nat) (s:S8):Nat→S8
 | 0=>s
 | t+1=>stepS F (mixTo F r s t) (kN F t) (r.getD t 0)
def addS (F:ShaF) (s v:S8):S8:=⟨(v.a+s.a)%2^F.bits,(v.b+s.b)%2^F.bits,(v.c+s.c)%2^F.bits,(v.d+s.d)%2^F.bits,(v.e+s.e)%2^F.bits,(v.f+s.f)%2^F.bits,(v.g+s.g)%2^F.bits,(v.h+s.h)%2^F.bits⟩
def mixS (F:ShaF) (s:S8) (blk:List UInt8):S8:=addS F s (mixTo F (rowW F blk F.many) s F.many)
theorem stepS_lt {F:ShaF} {s:S8} {k w:Nat} (h:s.Lt (2^F.bits)):(stepS F s k w).Lt (2^F.bits) :=
 ⟨Nat.mod_lt _ (Nat.two_pow_pos _),h.a,h.b,h.c,Nat.mod_lt _ (Nat.two_pow_pos _),h.e,h.f,h.g⟩
theorem mixTo_lt {F:ShaF} {r:List Nat} {s:S8} (h:s.Lt (2^F.bits)):∀ t,(mixTo F r s t).Lt (2^F.bits)
 | 0=>h
 | t+1=>stepS_lt (mixTo_lt h t)
theorem addS_lt (F:ShaF) (s v:S8):(addS F s v).Lt (2^F.bits):=by
 constructor <;> exact Nat.mod_lt _ (Nat.two_pow_pos _)
def s8V (K:IntKind) (s:S8):Array Value:=#[.int K (s.a:Int),.int K (s.b:Int),.int K (s.c:Int),.int K (s.d:Int),.int K (s.e:Int),.int K (s.f:Int),.int K (s.g:Int),.int K (s.h:Int)]
def s8L (s:S8):List Nat:=[s.a,s.b,s.c,s.d,s.e,s.f,s.g,s.h]
def addC (K:IntKind) (F:ShaF) (s v:S8) (i:Nat):Array Value:=(wordsV K ((s8L (addS F s v)).take i++(s8L v).drop i)).toArray
theorem addC_zero (K:IntKind) (F:ShaF) (s v:S8):addC K F s v 0=s8V K v:=rfl
theorem addC_end (K:IntKind) (F:ShaF) (s v:S8):addC K F s v 8=s8V K (addS F s v):=rfl
theorem addC_size (K:IntKind) (F:ShaF) (s v:S8) (i:Nat):(addC K F s v i).size=8:=by
 simp [addC,wordsV,s8L]; omega
theorem s8V_at (K:IntKind) (s:S8) (i:Nat) (h:i<8):(s8V K s)[i]?=some (.int K (((s8L s).getD i 0:Nat):Int)):=by
 match i,h with
 | 0,_=>rfl
 | 1,_=>rfl
 | 2,_=>rfl
 | 3,_=>rfl
 | 4,_=>rfl
 | 5,_=>rfl
 | 6,_=>rfl
 | 7,_=>rfl
theorem addC_at (K:IntKind) (F:ShaF) (s v:S8) (i:Nat) (h:i<8):(addC K F s v i)[i]?=some (.int K (((s8L v).getD i 0:Nat):Int)):=by
 match i,h with
 | 0,_=>rfl
 | 1,_=>rfl
 | 2,_=>rfl
 | 3,_=>rfl
 | 4,_=>rfl
 | 5,_=>rfl
 | 6,_=>rfl
 | 7,_=>rfl
theorem addC_set (K:IntKind) (F:ShaF) (s v:S8) (i:Nat) (h:i<8):(addC K F s v i).setIfInBounds i (.int K ((((s8L v).getD i 0+(s8L s).getD i 0)%2^F.bits:Nat):Int))=addC K F s v (i+1):=by
 match i,h with
 | 0,_=>rfl
 | 1,_=>rfl
 | 2,_=>rfl
 | 3,_=>rfl
 | 4,_=>rfl
 | 5,_=>rfl
 | 6,_=>rfl
 | 7,_=>rfl
structure TabG (w:World):Prop where
 size:1<w.heap.size
 cell:∀ i,i<80→w.cell? ⟨1,i,none⟩=some (.int .u64 ((stepsN.getD i 0:Nat):Int))
theorem TabG.below {w w':World} {B:Nat} (h:TabG w) (hb:Below B w w') (hB:1<B):TabG w' :=
 ⟨Nat.lt_of_lt_of_le h.size hb.size,fun i hi=>(hb.cell (p:=⟨1,i,none⟩) hB).trans (h.cell i hi)⟩
end Go.Proofs.YtlkikjeccamheaaGreatDoor.Sh
namespace Go.Proofs.YtlkikjeccamheaaGreatDoor.Sh
set_option linter.unusedSimpArgs false
set_option linter.unusedVariables false
set_option maxRecDepth 100000
set_option maxHeartbeats 4000000
open Go.ChangeShapes Go.WideShapes Go.ChangeAt Go.RowKit Go.Joins
theorem gSteps:Tryz.prog.globalNamed "brevet/sha.steps" = some 1:=by kernel_rfl
theorem tSteps:(Tryz.prog.globals[1]?).map (·.type)=some 164:=by kernel_rfl
theorem c_u64:Tryz.prog.cellsOf 118=1:=by kernel_rfl
theorem steps_datum:(Rows.laid_brevet_sha_steps:DataW Unit)=.agg (stepsN.map fun n:Nat=>DataW.lit (.int .u64 (n:Int))):=by kernel_rfl
end Go.Proofs.YtlkikjeccamheaaGreatDoor.Sh
namespace Go.Proofs.YtlkikjeccamheaaGreatDoor
set_option linter.unusedSimpArgs false
set_option linter.unusedVariables false
set_option maxRecDepth 100000
set_option maxHeartbeats 4000000
open Go.ChangeShapes Go.WideShapes Go.ChangeAt Go.RowKit Go.Joins
def laidL3:List (String × DataW Unit):=[("brevet/sha.steps",Rows.laid_brevet_sha_steps),("unicode/utf8.acceptRanges",Rows.laid_unicode_utf8_acceptRanges),("unicode/utf8.first",Rows.laid_unicode_utf8_first)]
theorem door_met3 (os:Os) (args:Array Value):laidMetH Tryz.prog laidL3 ((World.laidAll Tryz.prog os laidL3).forCall (fun _ _=>0) ⟨#[],args,[]⟩).memory:=by
 rw [MakeChecks.laidMetH_plain _ _ _ (by kernel_rfl)];exact laidMet_laidAll _ (by kernel_rfl) (by kernel_rfl)
theorem tab_of_laid3 {W:World} (h:laidMetH Tryz.prog laidL3 W):Sh.TabG W:=by
 rw [MakeChecks.laidMetH_plain _ _ _ (by kernel_rfl)] at h;obtain ⟨ps,⟨g0,t0,cs0,f0,p0,q0,hg0,ht0,hv0,hd0,_,_⟩,_⟩:=h;obtain rfl:=Option.some.inj (Sh.gSteps.symm.trans hg0);obtain rfl:=Option.some.inj (Sh.tSteps.symm.trans ht0);obtain ⟨xs,m,rfl,hx,hlen,hn,hel⟩:=DataW.trod_array Tryz.underlying164 hd0;rw [Sh.steps_datum] at hx;simp only [Prod.mk.injEq,DataW.agg.injEq] at hx
 have hcell:∀ i,i<80→W.cell? ⟨1,i,none⟩=some (.int .u64 ((Sh.stepsN.getD i 0:Nat):Int)):=fun i hi=>by
  have h0:=hel i hi;rw [Sh.c_u64,Nat.mul_one] at h0;have hxl:i<xs.length:=by rw [hn]; exact hi
  have hsl:i<Sh.stepsN.length:=by rw [Sh.stepsN_length]; exact hi
  rw [List.getElem?_eq_getElem hxl] at h0;obtain ⟨k,e1,e2,_⟩:=DataW.trod_int Tryz.underlying118 h0;have h1:(xs.map (·.1))[i]?=(Sh.stepsN.map fun n:Nat=>DataW.lit (H:=Unit) (.int .u64 (n:Int)))[i]?:=by rw [hx.1]
  rw [List.getElem?_map,List.getElem?_map,List.getElem?_eq_getElem hxl,List.getElem?_eq_getElem hsl,e2] at h1;simp at h1;subst h1;rw [World.var?_cell hg0 hv0 i]
  have h2:(cs0.toList.drop i)[0]?=some (.int .u64 ((Sh.stepsN[i]:Nat):Int)):=by
   have:((cs0.toList.drop i).take 1)[0]?=some (.int .u64 ((Sh.stepsN[i]:Nat):Int)):=by rw [e1]; rfl
   rwa [List.getElem?_take,if_pos (by decide)] at this
  rw [List.getElem?_drop,Nat.add_zero] at h2;rw [List.getD_eq_getElem?_getD,List.getElem?_eq_getElem hsl,Option.getD_some,← h2];simp
 refine ⟨?_,hcell⟩;have:=World.block_lt_of_cell? W _ (hcell 0 (by decide));exact this
end Go.Proofs.YtlkikjeccamheaaGreatDoor
namespace Go.Proofs.YtlkikjeccamheaaGreatDoor
set_option linter.unusedSimpArgs false
set_option linter.unusedVariables false
set_option maxRecDepth 100000
set_option maxHeartbeats 4000000
open Go.RowKit
section
variable {α:Type}
def rowsV (f:α→Array Value) (l:List α):List Value:=l.flatMap fun x=>(f x).toList
theorem qaT (f:α→Array Value) (l r:List α):rowsV f (l++r)=rowsV f l++rowsV f r:=by simp [rowsV]
theorem qbp (f:α→Array Value) (x:α):rowsV f [x]=(f x).toList:=by simp [rowsV]
theorem rowsV_len {f:α→Array Value} {m:Nat} (hf:∀ x,(f x).size=m):∀ l:List α,(rowsV f l).length=l.length*m
 | []=>by simp [rowsV]
 | x :: r=>by
  have:=rowsV_len hf r;rw [show rowsV f (x :: r)=(f x).toList++rowsV f r by simp [rowsV],List.length_append,this];simp [hf,Nat.add_mul,Nat.add_comm]
theorem qc9 {f:α→Array Value} {m:Nat} (hf:∀ x,(f x).size=m):∀ (l:List α) (i:Nat) (h:i<l.length) (j:Nat) (u:Value),(f l[i])[j]?=some u→(rowsV f l)[i*m+j]?=some u
 | x :: r,0,h,j,u,hu=>by
  rw [show rowsV f (x :: r)=(f x).toList++rowsV f r by simp [rowsV]];have hu':(f x)[j]?=some u:=by simpa using hu
  have hj:j<(f x).size:=(Array.getElem?_eq_some_iff.1 hu').1;rw [Nat.zero_mul,Nat.zero_add,List.getElem?_append_left (by simpa using hj),Array.getElem?_toList];exact hu'
 | x :: r,i+1,h,j,u,hu=>by
  have hi:i<r.length:=by simpa using h
  have:=qc9 hf r i hi j u (by simpa using hu);have e:(i+1)*m=m+i*m:=by rw [Nat.add_mul]; omega
  rw [show rowsV f (x :: r)=(f x).toList++rowsV f r by simp [rowsV],List.getElem?_append_right (by simp [hf]; omega)];simp only [Array.length_toList,hf];rw [show (i+1)*m+j - m=i*m+j by omega];exact this
theorem rowsV_take {f:α→Array Value} {m:Nat} (hf:∀ x,(f x).size=m):∀ (l:List α) (k:Nat),rowsV f (l.take k)=(rowsV f l).take (k*m)
 | [],k=>by simp [rowsV]
 | x :: r,0=>by simp [rowsV]
 | x :: r,k+1=>by
  have:=rowsV_take hf r k;rw [List.take_succ_cons,show rowsV f (x :: r.take k)=(f x).toList++rowsV f (r.take k) by simp [rowsV],show rowsV f (x :: r)=(f x).toList++rowsV f r by simp [rowsV],this,List.take_append];have e:(k+1)*m=m+k*m:=by rw [Nat.add_mul]; omega
  rw [e];have hl:(f x).toList.length=m:=by simp [hf]
  rw [hl,List.take_of_length_le (l:=(f x).toList) (by rw [hl]; omega),Nat.add_sub_cancel_left]
theorem qaO {f:α→Array Value} {m:Nat} (hf:∀ x,(f x).size=m) (hm:0<m) {w:World} {B:Nat} {A:Option Addr} {l:List α} (h:Rd w B A (rowsV f l)) {i:Nat} (hi:i<l.length) :
  ∃ ad,A=some ad∧ad.block<B∧∀ j u,(f l[i])[j]?=some u→w.cell? ((ad.add (i*m)).add j)=some u:=by
 have h0:=qc9 hf l i hi 0 _ (Array.getElem?_eq_getElem (by rw [hf]; exact hm));obtain ⟨ad,hA,hb,-⟩:=h _ _ h0;refine ⟨ad,hA,hb,fun j u hu=>?_⟩;obtain ⟨ad',hA',-,hc⟩:=h _ _ (qc9 hf l i hi j u hu);rw [hA] at hA'
 injection hA' with e
 subst e;rw [← hc]
 congr 1
 generalize i*m=n;unfold Addr.add
 by_cases h1:n=0 <;> by_cases h2:j=0 <;> simp [h1,h2,Nat.add_assoc]
end
def Row (w:World) (B:Nat) (t:TypeId) (A:Option Addr) (xs:List Value):Prop :=
 ∀ i u,xs[i]?=some u→∃ ad cs fz,A=some ad∧ad.block<B∧w.cell? (ad.add i)=some u∧w.heap[ad.block]?=some (.cells cs t fz)
variable {w w':World} {B:Nat} {t:TypeId} {A:Option Addr} {xs:List Value}
theorem Row.rd (h:Row w B t A xs):Rd w B A xs:=fun i u hu=>by
 obtain ⟨ad,cs,fz,h1,h2,h3,_⟩:=h i u hu;exact ⟨ad,h1,h2,h3⟩
theorem Row.nil (w:World) (B:Nat) (t:TypeId) (A:Option Addr):Row w B t A []:=fun i u hu=>by simp at hu
theorem Row.below (h:Row w B t A xs) (hb:Below B w w'):Row w' B t A xs:=fun i u hu=>by
 obtain ⟨ad,cs,fz,h1,h2,h3,h4⟩:=h i u hu;exact ⟨ad,cs,fz,h1,h2,by rw [hb.cell (p:=ad.add i) (by rw [qar]; exact h2)]; exact h3,by rw [hb.block _ h2]; exact h4⟩
theorem Row.mono {B':Nat} (h:Row w B t A xs) (hB:B≤B'):Row w B' t A xs:=fun i u hu=>by
 obtain ⟨ad,cs,fz,h1,h2,h3,h4⟩:=h i u hu;exact ⟨ad,cs,fz,h1,Nat.lt_of_lt_of_le h2 hB,h3,h4⟩
theorem Row.grow (h:Row w w.heap.size t A xs) (hb:Below w.heap.size w w'):Row w' w'.heap.size t A xs:=(h.below hb).mono hb.size
theorem Row.keep {e:TypeId} (h:Row w B t A xs) (hk:KeepBut e w w') (ht:t≠e):Row w' B t A xs:=fun i u hu=>by
 obtain ⟨ad,cs,fz,h1,h2,h3,h4⟩:=h i u hu;have h5:=qcI hk ht h4;refine ⟨ad,cs,fz,h1,h2,?_,h5⟩;rw [← h3];exact World.cell?_of_block (w:=w) (w':=w') (by rw [qar,h5,h4])
theorem Row.of_own {base size n c:Nat} (h:OwnX w base t size (.slice A n c) n xs):Row w w.heap.size t A xs:=fun i u hu=>by
 obtain ⟨ad,h1,h2,h3⟩:=Rd.of_own h (Nat.le_refl _) i u hu
 rcases h.2 with ⟨hn,_⟩ | ⟨g,cap,cur,fz,hv,hb,hgg,hrest⟩
 ·simp at hn;rw [hn.1] at h1;simp at h1
 ·simp at hv;rw [hv.1] at h1
  injection h1 with h1
  subst h1;exact ⟨_,_,_,hv.1,h2,h3,hgg⟩
theorem Row.take (h:Row w B t A xs) (k:Nat):Row w B t A (xs.take k):=fun i u hu=>by
 rw [List.getElem?_take] at hu
 split at hu
 ·exact h i u hu
 ·simp at hu
theorem Row.drop {ad:Addr} (h:Row w B t (some ad) xs) (k:Nat):Row w B t (some (ad.add k)) (xs.drop k):=fun i u hu=>by
 rw [List.getElem?_drop] at hu;obtain ⟨ad',cs,fz,h1,h2,h3,h4⟩:=h _ u hu
 injection h1 with h1
 subst h1;refine ⟨_,cs,fz,rfl,by rw [qar]; exact h2,?_,by rw [qar]; exact h4⟩;rw [← h3]
 congr 1
 unfold Addr.add
 by_cases e1:k=0 <;> by_cases e2:i=0 <;> simp [e1,e2,Nat.add_assoc]
end Go.Proofs.YtlkikjeccamheaaGreatDoor
namespace Go.Proofs.YtlkikjeccamheaaGreatDoor.Js
set_option linter.unusedSimpArgs false
set_option linter.unusedVariables false
set_option maxRecDepth 100000
set_option maxHeartbeats 4000000
abbrev Bs:=List UInt8
def bs (l:Bs):ByteArray:=⟨l.toArray⟩
inductive JT where
 | mk (kind num:Int) (text:Bs) (names:List Bs) (kids:List JT)
theorem JT.ind {p:JT→Prop} (h:∀ k n t ns ks,(∀ x ∈ ks,p x)→p (.mk k n t ns ks)):∀ j,p j
 | .mk k n t ns ks=>h k n t ns ks (fun x _=>JT.ind h x)
def jzero:JT:=.mk 0 0 [] [] []
def isBl (c:UInt8):Bool:=c == 32 || c == 9 || c == 10 || c == 13
def skip:Bs→Bs
 | []=>[]
 | c :: r=>if isBl c then skip r else c :: r
def look:Bs→UInt8
 | []=>0
 | c :: _=>c
def signP (c:UInt8) (r:Bs):Bool × Bs:=if look (skip r)=c then (true,skip (skip r).tail) else (false,skip r)
def mustP (c:UInt8) (r:Bs):Except Int Bs:=if look (skip r)=c then .ok (skip (skip r).tail) else .error 13
def esc (c:UInt8):Option UInt8 :=
 if c=34 then some 34 else if c=92 then some 92 else if c=47 then some 47 else if c=98 then some 8 else if c=102 then some 12
 else if c=110 then some 10 else if c=114 then some 13 else if c=116 then some 9 else none
def low (c:UInt8):UInt8:=if 65≤c∧c≤70 then c+32 else c
def hexv (c:UInt8):Option Nat:=if 48≤c∧c≤57 then some (c.toNat - 48) else if 97≤c∧c≤102 then some (c.toNat - 87) else none
def hexP (a0 a1 a2 a3:UInt8):Option UInt8 :=
 if a0=48∧a1=48 then match hexv (low a2),hexv (low a3) with
  | some x,some y=>if 16*x+y≤126 then some (UInt8.ofNat (16*x+y)) else none
  | _,_=>none
 else none
def escP:Bs→Option (UInt8 × Bs)
 | []=>none
 | d :: r=>match esc d with
  | some b=>some (b,r)
  | none=>if d=117 then match r with
    | a0 :: a1 :: a2 :: a3 :: r2=>match hexP a0 a1 a2 a3 with
     | some b=>some (b,r2)
     | none=>none
    | _=>none
   else none
theorem qdh {r:Bs} {b:UInt8} {r':Bs} (h:escP r=some (b,r')):r'.length<r.length:=by
 unfold escP at h
 split at h
 ·simp at h
 ·split at h
  ·injection h with h; injection h with h1 h2; subst h2; simp
  ·split at h
   ·split at h
    ·split at h
     ·injection h with h; injection h with h1 h2; subst h2; simp; omega
     ·simp at h
    ·simp at h
   ·simp at h
def strA:Nat→Bs→Bs→Option (Bs × Bs)
 | 0,_,_=>none
 | _+1,_,[]=>none
 | n+1,acc,c :: r =>
  if c<32∨126<c then none
  else if c=34 then some (acc,r)
  else if c=92 then match escP r with
   | some (b,r')=>strA n (acc++[b]) r'
   | none=>none
  else strA n (acc++[c]) r
def textP (r:Bs):Option (Bs × Bs):=if look r=34 then strA r.length [] r.tail else none
def isDig (c:UInt8):Bool:=48≤c && c≤57
def takeD:Nat→Bs→Bs × Bs
 | n+1,c :: r=>if isDig c then (c :: (takeD n r).1,(takeD n r).2) else ([],c :: r)
 | 0,r=>([],r)
 | _,[]=>([],[])
def decV (n:Nat) (d:Bs):Nat:=d.foldl (fun n c=>10*n+(c.toNat - 48)) n
def negP (r:Bs):Bool:=look r == 45
def digP (r:Bs):Bs × Bs:=takeD 17 (if negP r then r.tail else r)
def badN (neg:Bool) (d:Bs):Bool:=d.isEmpty || (look d == 48 && (1<d.length || neg)) || 1000000000000000<decV 0 d
def numP (r:Bs):Option (Int × Bs) :=
 if badN (negP r) (digP r).1=true then none else some (if negP r=true then -(decV 0 (digP r).1:Int) else (decV 0 (digP r).1:Int),(digP r).2)
def wordP (w r:Bs):Option Bs:=if w.isPrefixOf r then some (r.drop w.length) else none
def nameP (ns:List Bs) (r:Bs):Except Int (List Bs × Bs) :=
 match textP r with
 | none=>.error 13
 | some (s,r1)=>if s ∈ ns then .error 8 else match mustP 58 r1 with
  | .error e=>.error e
  | .ok r2=>.ok (ns++[s],r2)
def endC (m:Bool):UInt8:=if m then 125 else 93
def commaP (e:Bool) (r:Bs):Except Int Bs:=if e=true then .ok r else mustP 44 r
def keyP (m:Bool) (ns:List Bs) (r:Bs):Except Int (List Bs × Bs):=if m=true then nameP ns r else .ok (ns,r)
def listL (val:Bs→Except Int (JT × Bs)) (m:Bool):Nat→List Bs→List JT→Bs→Except Int (List Bs × List JT × Bs)
 | 0,_,_,_=>.error 13
 | n+1,ns,ks,r =>
  match signP (endC m) r with
  | (true,r1)=>.ok (ns,ks,r1)
  | (false,r1)=>match commaP ks.isEmpty r1 with
   | .error e=>.error e
   | .ok r2=>match keyP m ns r2 with
    | .error e=>.error e
    | .ok (ns',r3)=>match val r3 with
     | .error e=>.error e
     | .ok (k,r4)=>listL val m n ns' (ks++[k]) r4
theorem listL_ok {val:Bs→Except Int (JT × Bs)} {m:Bool} {n:Nat} {ns:List Bs} {ks:List JT} {r:Bs} {x:List Bs × List JT × Bs} (h:listL val m (n+1) ns ks r=.ok x) :
  (∃ r1,signP (endC m) r=(true,r1)∧x=(ns,ks,r1)) ∨
  ∃ r1 r2 ns' r3 k r4,signP (endC m) r=(false,r1)∧commaP ks.isEmpty r1=.ok r2∧keyP m ns r2=.ok (ns',r3)∧val r3=.ok (k,r4)∧listL val m n ns' (ks++[k]) r4=.ok x:=by
 rw [listL] at h
 split at h
 ·rename_i r1 h1
  injection h with h
  exact .inl ⟨r1,h1,h.symm⟩
 ·rename_i r1 h1
  split at h
  ·simp at h
  ·rename_i r2 h2
   split at h
   ·simp at h
   ·rename_i ns' r3 h3
    split at h
    ·simp at h
    ·rename_i k r4 h4
     exact .inr ⟨r1,r2,ns',r3,k,r4,h1,h2,h3,h4,h⟩
def listP (val:Bs→Except Int (JT × Bs)) (r:Bs):Except Int (JT × Bs) :=
 match listL val (look r == 123) r.length [] [] (skip r.tail) with
 | .error e=>.error e
 | .ok (ns,ks,r')=>.ok (.mk (if look r == 123 then 5 else 4) 0 [] ns ks,r')
def optR {α:Type}:Option (α × Bs)→(α→JT)→Except Int (JT × Bs)
 | none,_=>.error 13
 | some (a,r),f=>.ok (f a,r)
def wordR (w r:Bs) (v:JT):Except Int (JT × Bs):=match wordP w r with
 | none=>.error 13
 | some r'=>.ok (v,r')
def jtrue:JT:=.mk 1 1 [] [] []
def jfalse:JT:=.mk 1 0 [] [] []
def jint (n:Int):JT:=.mk 2 n [] [] []
def jtext (s:Bs):JT:=.mk 3 0 s [] []
def rawP (lp:Bs→Except Int (JT × Bs)) (r:Bs):Except Int (JT × Bs) :=
 if look r=110 then wordR [110,117,108,108] r jzero
 else if look r=116 then wordR [116,114,117,101] r jtrue
 else if look r=102 then wordR [102,97,108,115,101] r jfalse
 else if look r=34 then optR (textP r) jtext
 else if look r=91∨look r=123 then lp r
 else optR (numP r) jint
def skipR:Except Int (JT × Bs)→Except Int (JT × Bs)
 | .error e=>.error e
 | .ok (v,r)=>.ok (v,skip r)
def valueP:Nat→Bs→Except Int (JT × Bs)
 | 0,r=>skipR (rawP (fun _=>.error 9) (skip r))
 | d+1,r=>skipR (rawP (listP (valueP d)) (skip r))
def readP (s:Bs):Except Int JT :=
 if 2000<s.length then .error 4 else match valueP 6 s with
  | .error e=>.error e
  | .ok (v,[])=>.ok v
  | .ok (_,_ :: _)=>.error 13
def hexd (n:Nat):UInt8:=if n<10 then UInt8.ofNat (48+n) else UInt8.ofNat (87+n)
def quoteC (c:UInt8):Bs:=if c<32 then [92,117,48,48,hexd (c.toNat/16),hexd (c.toNat%16)] else if c=34∨c=92 then [92,c] else [c]
def quote (s:Bs):Bs:=34 :: (s.flatMap quoteC++[34])
def dg (k:Nat):UInt8:=UInt8.ofNat (48+k)
def digB:Nat→Nat→Bs
 | 0,_=>[]
 | f+1,n=>if n<10 then [dg n] else digB f (n/10)++[dg (n%10)]
def intB (n:Int):Bs:=if n<0 then 45 :: digB 16 n.natAbs else digB 16 n.natAbs
mutual
def writeV:JT→Bs
 | .mk k n t ns ks =>
  if k=0 then [110,117,108,108]
  else if k=1 then (if n=1 then [116,114,117,101] else [102,97,108,115,101])
  else if k=2 then intB n
  else if k=3 then quote t
  else (if k=5 then 123 else 91) :: (itemsV (k == 5) ns ks true++[if k=5 then 125 else 93])
def itemsV:Bool→List Bs→List JT→Bool→Bs
 | _,_,[],_=>[]
 | m,ns,k :: r,f=>(if f then [] else [44])++((if m then quote (ns.headD [])++[58] else [])++(writeV k++itemsV m ns.tail r false))
end
def okT (s:Bs):Bool:=s.all fun c=>c≤126
def plainJ (k n:Int) (t:Bs) (ns:List Bs) (ks:List JT):Bool :=
 (n == 0 || k == 2 || (k == 1 && n == 1)) && (ks.isEmpty || k == 4 || k == 5) && (ns.isEmpty || k == 5) && (t.isEmpty || k == 3)
def distinct:List Bs→Bool
 | []=>true
 | x :: r=>!r.contains x && distinct r
mutual
def rightV:Nat→JT→Bool
 | d,.mk k n t ns ks=>plainJ k n t ns ks && !(d == 0 && 4≤k) && (0≤k && k≤5) && (k != 5 || ns.length == ks.length) && okT t && ns.all okT
   && (k != 2 || (-1000000000000000≤n && n≤1000000000000000)) && distinct ns && rightsV (d - 1) ks
def rightsV:Nat→List JT→Bool
 | _,[]=>true
 | d,k :: r=>rightV d k && rightsV d r
end
theorem qa0 (d:Nat):∀ ks:List JT,rightsV d ks=true↔∀ k ∈ ks,rightV d k=true
 | []=>by simp [rightsV]
 | k :: r=>by simp [rightsV,qa0 d r]
theorem qaG:∀ r:Bs,(skip r).length≤r.length
 | []=>by simp [skip]
 | c :: r=>by
  have:=qaG r;unfold skip
  split <;> simp <;> omega
theorem strA_len:∀ (n:Nat) (acc r:Bs) {s r':Bs},strA n acc r=some (s,r')→r'.length<r.length
 | 0,acc,r,s,r',h=>by simp [strA] at h
 | n+1,acc,[],s,r',h=>by simp [strA] at h
 | n+1,acc,c :: r,s,r',h=>by
  unfold strA at h
  split at h
  ·simp at h
  ·split at h
   ·injection h with h; injection h with h1 h2; subst h2; simp
   ·split at h
    ·split at h
     ·rename_i b r1 he
      have h1:=qdh he;have h2:=strA_len n _ _ h;simp; omega
     ·simp at h
    ·have h2:=strA_len n _ _ h;simp; omega
theorem textP_len {r s r':Bs} (h:textP r=some (s,r')):r'.length<r.length:=by
 unfold textP at h
 split at h
 ·have:=strA_len _ _ _ h
  cases r <;> simp at*<;> omega
 ·simp at h
theorem takeD_len:∀ (n:Nat) (r:Bs),(takeD n r).1.length+(takeD n r).2.length=r.length
 | 0,r=>by simp [takeD]
 | n+1,[]=>by simp [takeD]
 | n+1,c :: r=>by
  have:=takeD_len n r;unfold takeD
  split <;> simp; omega
theorem numP_ok {r r':Bs} {n:Int} (h:numP r=some (n,r')):badN (negP r) (digP r).1=false∧n=(if negP r=true then -(decV 0 (digP r).1:Int) else (decV 0 (digP r).1:Int))∧r'=(digP r).2:=by
 unfold numP at h
 split at h
 ·simp at h
 ·rename_i hc
  injection h with h; injection h with h1 h2
  exact ⟨by simpa using hc,h1.symm,h2.symm⟩
theorem numP_len {r r':Bs} {n:Int} (h:numP r=some (n,r')):r'.length<r.length:=by
 obtain ⟨h1,h2,rfl⟩:=numP_ok h;have h3:=takeD_len 17 (if negP r then r.tail else r);have h4:(digP r).1≠[]:=fun h=>by simp [badN,h] at h1
 have h5:=List.length_pos_iff.2 h4;have h6:(if negP r then r.tail else r).length≤r.length:=by split <;> simp
 unfold digP at h5 ⊢;omega
theorem qb1 {c:UInt8} {r r':Bs} (h:mustP c r=.ok r'):r'.length≤r.length:=by
 unfold mustP at h
 split at h
 ·injection h with h; subst h
  have h1:=qaG (skip r).tail;have h2:=qaG r;simp at h1;omega
 ·simp at h
theorem qbY (c:UInt8) (r:Bs):(signP c r).2.length≤r.length:=by
 have h2:=qaG r;unfold signP
 split
 ·have h1:=qaG (skip r).tail;simp at h1 ⊢;omega
 ·exact h2
theorem qcC {ns ns':List Bs} {r r':Bs} (h:nameP ns r=.ok (ns',r')):r'.length≤r.length:=by
 unfold nameP at h
 split at h
 ·simp at h
 ·rename_i s r1 ht
  split at h
  ·simp at h
  ·split at h
   ·simp at h
   ·rename_i r2 hm
    injection h with h; injection h with h1 h2; subst h2
    have:=textP_len ht;have:=qb1 hm;omega
theorem qcx {w r r':Bs} {v v':JT} (hw:w≠[]) (h:wordR w r v=.ok (v',r')):r'.length<r.length:=by
 unfold wordR wordP at h
 split at h
 ·simp at h
 ·rename_i r1 hr
  split at hr
  ·rename_i hp
   injection hr with hr
   injection h with h; injection h with h1 h2
   rw [← h2,← hr];have:=List.IsPrefix.length_le (List.isPrefixOf_iff_prefix.1 hp);have:=List.length_pos_iff.2 hw;simp; omega
  ·simp at hr
theorem listL_len (val:Bs→Except Int (JT × Bs)) (m:Bool) (hv:∀ {r v r'},val r=.ok (v,r')→r'.length<r.length):∀ (n:Nat) (ns:List Bs) (ks:List JT) (r:Bs) {ns':List Bs} {ks':List JT} {r':Bs},listL val m n ns ks r=.ok (ns',ks',r')→r'.length≤r.length
 | 0,ns,ks,r,ns',ks',r',h=>by simp [listL] at h
 | n+1,ns,ks,r,ns',ks',r',h=>by
  have hs:=qbY (endC m) r
  rcases listL_ok h with ⟨r1,h1,h2⟩ | ⟨r1,r2,ns1,r3,k,r4,h1,h2,h3,h4,h5⟩
  ·injection h2 with h2 h3; injection h3 with h3 h4; subst h4
   rw [h1] at hs;exact hs
  ·rw [h1] at hs
   have l2:r2.length≤r1.length:=by
    unfold commaP at h2
    split at h2
    ·injection h2 with h2; subst h2; exact Nat.le_refl _
    ·have:=qb1 h2; omega
   have l3:r3.length≤r2.length:=by
    unfold keyP at h3
    split at h3
    ·exact qcC h3
    ·injection h3 with h3; injection h3 with h3 h4; subst h4; exact Nat.le_refl _
   have:=hv h4;have:=listL_len val m hv n _ _ _ h5;simp at hs;omega
theorem rawP_len {lp:Bs→Except Int (JT × Bs)} (hl:∀ {r v r'},lp r=.ok (v,r')→r≠[]→r'.length<r.length) {r:Bs} {v:JT} {r':Bs} (h:rawP lp r=.ok (v,r')):r'.length<r.length:=by
 unfold rawP at h
 split at h
 ·exact qcx (by simp) h
 split at h
 ·exact qcx (by simp) h
 split at h
 ·exact qcx (by simp) h
 split at h
 ·unfold optR at h
  split at h
  ·simp at h
  ·rename_i ht
   injection h with h; injection h with h1 h2; subst h2
   exact textP_len ht
 split at h
 ·rename_i hq
  exact hl h (by rintro rfl; simp [look] at hq)
 ·unfold optR at h
  split at h
  ·simp at h
  ·rename_i ht
   injection h with h; injection h with h1 h2; subst h2
   exact numP_len ht
theorem listP_len {val:Bs→Except Int (JT × Bs)} (hv:∀ {r v r'},val r=.ok (v,r')→r'.length<r.length) {r:Bs} {v:JT} {r':Bs} (h:listP val r=.ok (v,r')) (hr:r≠[]):r'.length<r.length:=by
 unfold listP at h
 split at h
 ·simp at h
 ·rename_i ht
  injection h with h; injection h with h1 h2; subst h2
  have h1:=listL_len val _ hv _ _ _ _ ht;have h2:=qaG r.tail;have:=List.length_pos_iff.2 hr;simp at h2;omega
theorem qbD {x:Except Int (JT × Bs)} {v:JT} {r:Bs} (h:skipR x=.ok (v,r)):∃ r0,x=.ok (v,r0)∧r=skip r0:=by
 unfold skipR at h
 split at h
 ·simp at h
 ·rename_i v1 r1
  injection h with h; injection h with h1 h2; subst h1 h2
  exact ⟨_,rfl,rfl⟩
theorem qcQ:∀ (d:Nat) {r:Bs} {v:JT} {r':Bs},valueP d r=.ok (v,r')→r'.length<r.length
 | 0,r,v,r',h=>by
  obtain ⟨r0,h1,rfl⟩:=qbD h;have:=rawP_len (by intro _ _ _ h; simp at h) h1;have:=qaG r;have:=qaG r0;omega
 | d+1,r,v,r',h=>by
  obtain ⟨r0,h1,rfl⟩:=qbD h;have:=rawP_len (fun h hr=>listP_len (fun h=>qcQ d h) h hr) h1;have:=qaG r;have:=qaG r0;omega
end Go.Proofs.YtlkikjeccamheaaGreatDoor.Js
namespace Go.Proofs.YtlkikjeccamheaaGreatDoor.Js
set_option linter.unusedSimpArgs false
set_option linter.unusedVariables false
set_option maxRecDepth 100000
set_option maxHeartbeats 4000000
open Go.RowKit
structure JV where
 k:Int
 n:Int
 t:Bs
 nA:Option Addr
 nn:Nat
 nc:Nat
 kA:Option Addr
 kn:Nat
 kc:Nat
def jvCells (v:JV):Array Value:=#[.int .i64 v.k,.int .i64 v.n,.string (bs v.t),.slice v.nA v.nn v.nc,.slice v.kA v.kn v.kc]
def sCell (s:Bs):Array Value:=#[.string (bs s)]
theorem bs_self (s:ByteArray):bs s.data.toList=s:=by
 cases s
 rfl
theorem bs_inj {a b:Bs} (h:bs a=bs b):a=b:=by
 unfold bs at h
 injection h with h
 simpa using congrArg Array.toList h
theorem qay (s:Bs):(bs s).size=s.length:=by simp [bs,ByteArray.size]
theorem qbA (a b:Bs):bs a++bs b=bs (a++b):=by
 apply ByteArray.ext;simp [bs]
theorem qae (k:JV):(jvCells k).all (·.oneCell')=true:=by simp [jvCells,Value.oneCell']
def RdS (w:World) (S:Nat→Prop) (A:Option Addr) (xs:List Value):Prop:=∀ i u,xs[i]?=some u→∃ ad,A=some ad∧S ad.block∧w.cell? (ad.add i)=some u
section
variable {w w':World} {S S':Nat→Prop} {A:Option Addr} {xs:List Value} {B:Nat}
theorem RdS.nil (w:World) (S:Nat→Prop) (A:Option Addr):RdS w S A []:=fun i u hu=>by simp at hu
theorem RdS.lt (h:RdS w S A xs) {i:Nat} {u:Value} (hu:xs[i]?=some u):∃ ad,A=some ad∧S ad.block∧ad.block<w.heap.size∧w.cell? (ad.add i)=some u:=by
 obtain ⟨ad,h1,h2,h3⟩:=h i u hu;refine ⟨ad,h1,h2,?_,h3⟩;have:=World.block_lt_of_cell? w _ h3
 rwa [qar] at this
theorem RdS.rd (h:RdS w S A xs) (hS:∀ b,b<w.heap.size→S b→b<B):Rd w B A xs:=fun i u hu=>by
 obtain ⟨ad,h1,h2,h3,h4⟩:=h.lt hu;exact ⟨ad,h1,hS _ h3 h2,h4⟩
theorem RdS.imp (h:RdS w S A xs) (hS:∀ b,b<w.heap.size→S b→S' b):RdS w S' A xs:=fun i u hu=>by
 obtain ⟨ad,h1,h2,h3,h4⟩:=h.lt hu;exact ⟨ad,h1,hS _ h3 h2,h4⟩
theorem RdS.of_rd (h:Rd w B A xs):RdS w (fun b=>b<B) A xs:=fun i u hu=>h i u hu
theorem RdS.heap (h:RdS w S A xs) (hk:∀ b,b<w.heap.size→S b→w'.heap[b]?=w.heap[b]?):RdS w' S A xs:=fun i u hu=>by
 obtain ⟨ad,h1,h2,h3,h4⟩:=h.lt hu;refine ⟨ad,h1,h2,?_⟩;rw [← h4];exact World.cell?_of_block (w:=w) (w':=w') (by rw [qar]; exact hk _ h3 h2)
end
inductive JRep (w:World) (S:Nat→Prop):JT→JV→Prop
 | mk (v:JV) (ns:List Bs) (ks:List JT) (kv:List JV) (hn:v.nn=ns.length) (hnc:v.nn≤v.nc) (hnr:RdS w S v.nA (rowsV sCell ns)) (hk:v.kn=ks.length) (hkc:v.kn≤v.kc) (hkv:kv.length=ks.length)
   (hkr:RdS w S v.kA (rowsV jvCells kv)) (hkids:∀ i (h:i<ks.length) (h':i<kv.length),JRep w S ks[i] kv[i]):JRep w S (.mk v.k v.n v.t ns ks) v
section
variable {w w':World} {S S':Nat→Prop} {j:JT} {v:JV}
theorem JRep.imp (h:JRep w S j v) (hS:∀ b,b<w.heap.size→S b→S' b):JRep w S' j v:=by
 induction h with
 | mk v ns ks kv hn hnc hnr hk hkc hkv hkr hkids ih=>exact .mk v ns ks kv hn hnc (hnr.imp hS) hk hkc hkv (hkr.imp hS) ih
theorem JRep.heap (h:JRep w S j v) (hk:∀ b,b<w.heap.size→S b→w'.heap[b]?=w.heap[b]?):JRep w' S j v:=by
 induction h with
 | mk v ns ks kv hn hnc hnr hk' hkc hkv hkr hkids ih=>exact .mk v ns ks kv hn hnc (hnr.heap hk) hk' hkc hkv (hkr.heap hk) ih
theorem JRep.under {B:Nat} (h:JRep w (fun b=>b<B) j v) (hb:Below B w w'):JRep w' (fun b=>b<B) j v:=h.heap fun b _ hlt=>hb.block b hlt
theorem JRep.grown {g:Option Nat} (h:JRep w S j v) (hg:w.grownBy w' g) (hS:∀ b,S b→some b≠g):JRep w' S j v:=h.heap fun b hlt hs=>hg.block b hlt (hS b hs)
theorem JRep.inv (h:JRep w S j v):∃ ns ks kv,j=.mk v.k v.n v.t ns ks∧v.nn=ns.length∧v.nn≤v.nc∧RdS w S v.nA (rowsV sCell ns)∧v.kn=ks.length∧v.kn≤v.kc∧kv.length=ks.length ∧
  RdS w S v.kA (rowsV jvCells kv)∧∀ i (h:i<ks.length) (h':i<kv.length),JRep w S ks[i] kv[i]:=by
 cases h with
 | mk v ns ks kv hn hnc hnr hk hkc hkv hkr hkids=>exact ⟨ns,ks,kv,rfl,hn,hnc,hnr,hk,hkc,hkv,hkr,hkids⟩
end
def zJV:JV:=⟨0,0,[],none,0,0,none,0,0⟩
theorem JRep.flat (w:World) (S:Nat→Prop) (k n:Int) (t:Bs):JRep w S (.mk k n t [] []) ⟨k,n,t,none,0,0,none,0,0⟩ :=
 .mk ⟨k,n,t,none,0,0,none,0,0⟩ [] [] [] rfl (Nat.le_refl _) (RdS.nil _ _ _) rfl (Nat.le_refl _) rfl (RdS.nil _ _ _) (fun i h _=>by simp at h)
theorem slidx_any (s:ByteArray) (c:Int) (w:World) :
  Calls Tryz.prog 74 #[.string s,.int .u8 c] w fun e w'=>e=.returned (.int .i64 (Lib.indexByte s.data.toList c.toNat.toUInt8))∧w'=w:=by
 go_enter Tryz.func74,Tryz.ntmps74;go_wp2;rw [run_callFunc_extern Tryz.func105 (by kernel_rfl) (by kernel_rfl) (by kernel_rfl) (e:=Extern.BytealgIndexByte.indexByte) (by kernel_rfl),Lib.run_indexByteString];simp only [Result.andThen];rw [Oper.upon_value];go_wp2;go_ret;exact ⟨rfl,rfl⟩
theorem idxb_any (s:ByteArray) (c:Int) (w:World) :
  Calls Tryz.prog 43 #[.string s,.int .u8 c] w fun e w'=>e=.returned (.int .i64 (Lib.indexByte s.data.toList c.toNat.toUInt8))∧w'=w:=by
 have C:=zY (slidx_any s c w);go_enter Tryz.func43,Tryz.ntmps43;go_wp2_with fail;refine qaa C.out ?_;rintro e w1 ⟨rfl,rfl⟩;go_wp2_with fail;go_ret;exact ⟨rfl,rfl⟩
def rdCells (s:ByteArray) (a d e:Int):Array Value:=#[.string s,.int .i64 a,.int .i64 d,.int .i64 e]
def RD (w:World) (r:Nat) (s:ByteArray) (a:Nat) (d e:Int):Prop:=Blk w r 76 (rdCells s a d e)
def RG (r:Nat) (w w':World):Prop:=w.grownBy w' (some r)
theorem RG.refl (r:Nat) (w:World):RG r w w:=World.grownBy.refl _ _
theorem RG.trans {r:Nat} {a b c:World} (h:RG r a b) (h':RG r b c):RG r a c:=World.grownBy.trans h h'
theorem RG.wrote {r:Nat} {a b:World} (h:Wrote r a b):RG r a b:=h.grown
theorem RG.drewN {r:Nat} {a b:World} (h:RG r a b) (n:Nat):RG r a (b.drewN n):=grown_drewN h n
theorem RD.cells {w:World} {r:Nat} {s:ByteArray} {a:Nat} {d e:Int} (h:RD w r s a d e) :
  w.cell? ⟨r,0,none⟩=some (.string s)∧w.cell? ⟨r,1,none⟩=some (.int .i64 (a:Int))∧w.cell? ⟨r,2,none⟩=some (.int .i64 d)∧w.cell? ⟨r,3,none⟩=some (.int .i64 e) :=
 ⟨Blk.cell h 0,Blk.cell h 1,Blk.cell h 2,Blk.cell h 3⟩
theorem qbn (c:Int) (s:ByteArray) (r a:Nat) (d e:Int) (w:World) (h:RD w r s a d e) :
  Calls Tryz.prog 41 #[.pointer (some ⟨r,0,none⟩),.int .i64 c] w fun x w'=>x=.returned (.tuple #[])∧RD w' r s a d (if e=0 then c else e)∧RG r w w':=by
 obtain ⟨c0,c1,c2,c3⟩:=h.cells;have H:=zY h;clear h c0 c1 c2
 by_cases he:e=0
 ·subst he;go_enter Tryz.func41,Tryz.ntmps41;go_wp2_with (refine qaf (x:=.tmp 12) (i:=3) H.out rfl rfl rfl rfl (by kernel_rfl) (by simp [rdCells]) rfl ?_; intro w1 hb1 hw1)
  go_end0
  exact ⟨rfl,hb1,.wrote hw1⟩
 ·have he':(e == 0)=false:=by simpa using he
  have HE:=zY he;clear he;go_enter Tryz.func41,Tryz.ntmps41;go_wp2_with fail
  go_end0
  first
   | exact ⟨rfl,H.out,RG.refl _ _⟩
   | exact ⟨rfl,by rw [if_neg HE.out]; exact H.out,RG.refl _ _⟩
def lookE (s:ByteArray) (a:Nat) (e:Int):UInt8:=if e=0 then look (s.data.toList.drop a) else 0
theorem qdJ {s:ByteArray} {a:Nat} (h:a<s.size):look (s.data.toList.drop a)=s[a]:=by
 have h1:a<s.data.toList.length:=h;rw [List.drop_eq_getElem_cons h1];rfl
theorem qcF {s:ByteArray} {a:Nat} (h:¬ a<s.size):look (s.data.toList.drop a)=0:=by
 rw [List.drop_eq_nil_of_le (by show s.size≤a; omega)];rfl
theorem qbQ (s:ByteArray) (r a:Nat) (d e:Int) (w:World) (h:RD w r s a d e) :
  Calls Tryz.prog 72 #[.pointer (some ⟨r,0,none⟩)] w fun x w'=>x=.returned (byteV (lookE s a e))∧RD w' r s a d e∧RG r w w':=by
 obtain ⟨c0,c1,c2,c3⟩:=h.cells;have H:=zY h;clear h c2
 by_cases he:e=0
 ·subst he
  by_cases hl:a<s.size
  ·have hl':(a:Int)<(s.size:Int):=by omega
   have HV:=zY (show byteV (lookE s a 0)=.int .u8 ((s[a].toNat:Nat):Int) by rw [lookE,if_pos rfl,qdJ hl]; rfl);go_enter Tryz.func72,Tryz.ntmps72;go_wp2_with fail
   go_quiet (fail)
   go_wp2_with fail
   go_quiet (fail)
   go_wp2_with fail;go_ret;exact ⟨by rw [HV.out]; rfl,H.out,by first | exact (RG.refl r w).drewN _ | exact ((RG.refl r w).drewN _).drewN _⟩
  ·have hl':¬ (a:Int)<(s.size:Int):=by omega
   have HV:=zY (show byteV (lookE s a 0)=.int .u8 0 by rw [lookE,if_pos rfl,qcF hl]; rfl);go_enter Tryz.func72,Tryz.ntmps72;go_wp2_with fail
   go_quiet (fail)
   go_wp2_with fail;go_ret;exact ⟨by rw [HV.out]; rfl,H.out,by first | exact (RG.refl r w).drewN _ | exact ((RG.refl r w).drewN _).drewN _⟩
 ·have he':(e == 0)=false:=by simpa using he
  have he2:(e != 0)=true:=by simpa using he
  have HV:=zY (show byteV (lookE s a e)=.int .u8 0 by rw [lookE,if_neg he]; rfl);clear he;go_enter Tryz.func72,Tryz.ntmps72;go_wp2_with fail
  go_quiet (fail)
  go_wp2_with fail;go_ret;exact ⟨by rw [HV.out]; rfl,H.out,by first | exact (RG.refl r w).drewN _ | exact ((RG.refl r w).drewN _).drewN _⟩
theorem blank_idx (c:UInt8):decide (0≤Lib.indexByte [32,9,10,13] c)=isBl c:=by
 have key:∀ k:Fin 256,decide (0≤Lib.indexByte [32,9,10,13] (UInt8.ofNat k.1))=isBl (UInt8.ofNat k.1):=by decide +kernel
 have:=key ⟨c.toNat,c.toNat_lt⟩
 simpa using this
theorem skip_at {s:ByteArray} {a:Nat} (h:a<s.size):skip (s.data.toList.drop a)=if isBl s[a] then skip (s.data.toList.drop (a+1)) else s.data.toList.drop a:=by
 have h1:a<s.data.toList.length:=h;rw [List.drop_eq_getElem_cons h1,skip];rfl
theorem skip_off {s:ByteArray} {a:Nat} (h:¬ a<s.size):skip (s.data.toList.drop a)=s.data.toList.drop a:=by
 rw [List.drop_eq_nil_of_le (by show s.size≤a; omega)];rfl
theorem qbO (s:ByteArray) (hs:(s.size:Int)≤1000000) (r a:Nat) (d e:Int) (w:World) (h:RD w r s a d e) (ha:(a:Int)≤2000000) :
  Calls Tryz.prog 70 #[.pointer (some ⟨r,0,none⟩)] w fun x w'=>x=.returned (.tuple #[])∧∃ a',a≤a'∧(a'≤a∨a'≤s.size)∧s.data.toList.drop a'=skip (s.data.toList.drop a)∧RD w' r s a' d e∧RG r w w':=by
 have CI:=zY (fun (c:Int) (u:World)=>idxb_any ⟨#[32,9,10,13]⟩ c u);have H:=zY h;have HA:=zY ha;clear h ha;go_enter Tryz.func70,Tryz.ntmps70;go_wp2_with fail
 go_loopg [] (s.size - a) (fun gk wr=>∃ a',a≤a'∧(a'≤a∨a'≤s.size)∧s.size - a'=gk∧skip (s.data.toList.drop a')=skip (s.data.toList.drop a)∧RD wr r s a' d e∧RG r w wr)
 case atStart=>exact ⟨a,Nat.le_refl _,.inl (Nat.le_refl _),rfl,rfl,H.out,RG.refl _ _⟩
 case round =>
  obtain ⟨b,hb1,hb2,hb3,hb4,hrd,hrg⟩:=hrel;obtain ⟨c0,c1,c2,c3⟩:=hrd.cells;have HRD:=zY hrd;have HRG:=zY hrg;have H4:=zY hb4;clear hrd hrg hb4 c2 c3
  by_cases hl:b<s.size
  ·have hl':(b:Int)<(s.size:Int):=by omega
   obtain ⟨c,hc⟩:=eX (s[b]);have HSK:=zY (skip_at hl);rw [← hc] at HSK;obtain ⟨k,hk⟩:=eX (Lib.indexByte [32,9,10,13] c);have HK:=zY (show decide (0≤k)=isBl c by rw [hk,blank_idx])
   have HC:=zY (fun u=>show Calls Tryz.prog 43 #[.string ⟨#[32,9,10,13]⟩,.int .u8 ((s[b].toNat:Nat):Int)] u fun x w'=>x=.returned (.int .i64 k)∧w'=u by
    have h:=CI.out ((s[b].toNat:Nat):Int) u;rw [show ((s[b].toNat:Nat):Int).toNat.toUInt8=c by rw [hc]; simp] at h;rw [hk];exact h)
   clear hc hk;go_wp2_with fail
   go_quiet (refine Calls.quiet_of_same (HC.out _))
   have HD:=zY (show RD (wr.drewN nq) r s b d e∧RG r w (wr.drewN nq) from ⟨HRD.out,HRG.out.drewN nq⟩);have HBL:∀ q,isBl c=q→decide (0≤k)=q:=fun q h=>by rw [HK.out,h]
   cases hq:isBl c with
   | true =>
    have hk1:=HBL true hq;have hk2:0≤k:=of_decide_eq_true hk1;clear hk1 HBL;go_wp2_with (refine qaf (x:=.tmp 31) (i:=1) HD.out.1 rfl rfl rfl rfl (by kernel_rfl) (by simp [rdCells]) rfl ?_; intro w5 hb5 hw5)
    go_roundg (gk - 1)
    case measure=>omega
    case rel=>exact ⟨b+1,by omega,.inr (by omega),by omega,by rw [← H4.out,HSK.out,hq]; rfl,hb5,HD.out.2.trans (.wrote hw5)⟩
   | false =>
    have hk1:=HBL false hq;have hk2:¬ 0≤k:=of_decide_eq_false hk1;clear hk1 HBL;go_wp2_with fail
    go_end0
    exact ⟨rfl,b,hb1,hb2,by rw [← H4.out,HSK.out,hq]; rfl,HD.out.1,HD.out.2⟩
  ·have hl':¬ (b:Int)<(s.size:Int):=by omega
   have HSK:=zY (skip_off hl);go_wp2_with fail
   go_quiet (fail)
   have HD:=zY (show RD (wr.drewN nq) r s b d e∧RG r w (wr.drewN nq) from ⟨HRD.out,HRG.out.drewN nq⟩);go_wp2_with fail
   go_end0
   exact ⟨rfl,b,hb1,hb2,by rw [← H4.out,HSK.out],HD.out.1,HD.out.2⟩
end Go.Proofs.YtlkikjeccamheaaGreatDoor.Js
namespace Go.Proofs.YtlkikjeccamheaaGreatDoor
set_option linter.unusedSimpArgs false
set_option linter.unusedVariables false
set_option maxRecDepth 100000
set_option maxHeartbeats 4000000
open Go.RowKit
section
variable {P:Program} {w:World} {ops:Array Oper} {rest:List Oper} {o:Oper} {a:Act} {Q:Exit→Act→World→Prop}
theorem run_loadVar_rd {ty:TypeId} {p:Addr} {r:List Value} {d:TypeDesc} (hr:∀ j u,r[j]?=some u→w.cell? (p.add j)=some u)
  (hu:P.underlying ty=some d) (hd:(match d with | .struct _ | .array _ _=>true | _=>false)=true) (hi:(P.info? ty).map (·.size)=some r.length) :
  (loadVar ty p).run P w=.ok (.agg r.toArray) w:=by
 have hl:(loadCells p r.length).run P w=.ok r.toArray w:=run_loadCells_list (P:=P) w p r hr
 cases hq:P.info? ty with
 | none=>simp [hq] at hi
 | some i =>
  have hs:i.size=r.length:=by simpa [hq] using hi
  have hagg:(isAgg ty).run P w=.ok true w:=by
   unfold isAgg;rw [Sem.run_bind,run_underlying hu w]
   cases d <;> simp_all
  simp [loadVar,Sem.run_bind,hagg,sizeOf,typeInfo,hq,hs,hl]
theorem qaA {ty:TypeId} {x:Operand} {p:Addr} {r:List Value} {d:TypeDesc} (hr:∀ j u,r[j]?=some u→w.cell? (p.add j)=some u)
  (hgd:o.guard=none) (ho:o.op=.load ty x) (hx:a.eval x=.pointer (some p))
  (hu:P.underlying ty=some d) (hd:(match d with | .struct _ | .array _ _=>true | _=>false)=true) (hi:(P.info? ty).map (·.size)=some r.length)
  (h:wpList P ops Q rest (a.put o.dst (.agg r.toArray)) w):wpList P ops Q (o :: rest) a w:=by
 refine wpList_plain hgd fun K hK=>?_;have hl:=run_loadVar_rd (P:=P) (w:=w) hr hu hd hi;unfold Oper.wp execOp;simp only [ho,hx,Instr.loadAt,Instr.sureAddr,Sem.run_bind,Sem.run_pure,Result.andThen_ok,hl];exact hK _ _ h
end
theorem qaz {u u':World} {o:Obj} (hw:Wrote u.heap.size (u.alloc o) u'):Below u.heap.size u u' :=
 hw.below ((Below.refl _ u).alloc (Nat.le_refl _) o) (Nat.le_refl _) (by simp)
end Go.Proofs.YtlkikjeccamheaaGreatDoor
namespace Go.Proofs.YtlkikjeccamheaaGreatDoor.Js
set_option linter.unusedSimpArgs false
set_option linter.unusedVariables false
set_option maxRecDepth 100000
set_option maxHeartbeats 4000000
open Go.RowKit
structure At (s:ByteArray) (a a':Nat) (rest:Bs):Prop where
 le:a≤a'
 top:a'≤a∨a'≤s.size
 rest:s.data.toList.drop a'=rest
theorem At.trans {s:ByteArray} {a b c:Nat} {x y:Bs} (h:At s a b x) (h':At s b c y):At s a c y :=
 ⟨Nat.le_trans h.le h'.le,by have:=h.top; have:=h'.top; have:=h.le; have:=h'.le; omega,h'.rest⟩
theorem At.big {s:ByteArray} {a a':Nat} {x:Bs} (h:At s a a' x) (hs:(s.size:Int)≤1000000) (ha:(a:Int)≤1500000):(a':Int)≤1500000:=by
 have:=h.top;omega
theorem lookE_skip {s:ByteArray} {a:Nat} {e:Int} {x:Bs} (h:s.data.toList.drop a=x):lookE s a e=if e=0 then look x else 0:=by rw [lookE,h]
theorem qba {s:ByteArray} {a:Nat} (h:look (s.data.toList.drop a)≠0):a<s.size:=by
 refine Classical.byContradiction fun hn=>h ?_;exact qcF hn
theorem qaK (L:Bs) (a:Nat):L.drop (a+1)=(L.drop a).tail:=by simp
def signB (c:UInt8) (e:Int) (r:Bs):Bool:=decide (e=0) && (signP c r).1
def signR (c:UInt8) (e:Int) (r:Bs):Bs:=if signB c e r then (signP c r).2 else skip r
theorem sign_any (c:UInt8) (hc0:c≠0) (s:ByteArray) (hs:(s.size:Int)≤1000000) (r a:Nat) (d e:Int) (w:World) (h:RD w r s a d e) (ha:(a:Int)≤1500000) :
  Calls Tryz.prog 123 #[.pointer (some ⟨r,0,none⟩),byteV c] w fun x w'=>x=.returned (.bool (signB c e (s.data.toList.drop a)))∧∃ a',At s a a' (signR c e (s.data.toList.drop a))∧RD w' r s a' d e∧RG r w w':=by
 have HA:=zY ha;have HS:=zY hs;have CB:=zY (qbO s hs r a d e w h (by omega));obtain ⟨X,hX⟩:=eX (s.data.toList.drop a);rw [← hX] at CB ⊢;clear h ha hs hX;unfold byteV;go_enter Tryz.func123,Tryz.ntmps123;go_wp2_with fail;refine qaa CB.out ?_;rintro y w1 ⟨rfl,a1,h1,h2,h3,hrd,hrg⟩;have HAT:=zY (show At s a a1 (skip X) from ⟨h1,h2,h3⟩);have HRG:=zY hrg;have CL:=zY (qbQ s r a1 d e w1 hrd);clear h1 h2 h3 hrd hrg;go_wp2_with fail;refine qaa CL.out ?_;rintro y w2 ⟨rfl,hrd,hrg⟩;have HRG2:=zY (HRG.out.trans hrg);have HRD2:=zY hrd;have hlk:lookE s a1 e=if e=0 then look (skip X) else 0:=lookE_skip HAT.out.rest
 by_cases hq:lookE s a1 e=c
 ·have he:e=0:=Classical.byContradiction fun hn=>hc0 (by rw [← hq,hlk,if_neg hn]);subst he;rw [if_pos rfl] at hlk;have hl:look (skip X)=c:=by rw [← hlk,hq]
  have HB:=zY (show signB c 0 X=true by simp [signB,signP,hl]);have HR:=zY (show signR c 0 X=skip (skip X).tail by rw [signR,if_pos HB.out,signP,if_pos hl]);have HLT:=zY (show a1<s.size from qba (by rw [HAT.out.rest,hl]; exact hc0));have hbig:(a1:Int)≤1500000:=HAT.out.big HS.out HA.out;have CB2:=zY (fun u (h:RD u r s (a1+1) d 0)=>qbO s HS.out r (a1+1) d 0 u h (by omega));obtain ⟨c0,c1,-,-⟩:=HRD2.out.cells;rw [hq];unfold byteV;clear hq hl hlk hrd hrg;go_wp2_with (refine qaf (x:=.tmp 17) (i:=1) HRD2.out rfl rfl rfl rfl (by kernel_rfl) (by simp [rdCells]) rfl ?_; intro w5 hb5 hw5);have HRD5:=zY (show RD w5 r s (a1+1) d 0 from hb5);have HRG5:=zY (HRG2.out.trans (.wrote hw5));clear hb5 hw5 c0 c1;refine qaa (CB2.out _ HRD5.out) ?_;rintro y w6 ⟨rfl,a2,h1,h2,h3,hrd,hrg⟩;have HRG6:=zY (HRG5.out.trans hrg);have HRD6:=zY hrd
  have HAT6:=zY (show At s a a2 (skip (skip X).tail) from by
   have k1:=HAT.out.le;have k2:=HAT.out.top;have k3:=HLT.out;refine ⟨by omega,.inr (by omega),?_⟩;rw [h3,qaK,HAT.out.rest])
  clear h1 h2 h3 hrd hrg hbig;go_wp2_with fail;go_ret;exact ⟨by rw [HB.out]; rfl,a2,by rw [HR.out]; exact HAT6.out,HRD6.out,HRG6.out⟩
 ·have hne:(((lookE s a1 e).toNat:Nat):Int)≠((c.toNat:Nat):Int):=fun h=>hq (UInt8.toNat.inj (by omega));have hbn:((((lookE s a1 e).toNat:Nat):Int) == ((c.toNat:Nat):Int))=false:=by simpa using hne
  have HB:=zY (show signB c e X=false by
   unfold signB
   by_cases he:e=0
   ·rw [if_pos he] at hlk;rw [hlk] at hq;simp [he,signP,hq]
   ·simp [he])
  have HR:=zY (show signR c e X=skip X by rw [signR,HB.out]; rfl);unfold byteV;generalize (((lookE s a1 e).toNat:Nat):Int)=z1 at *;generalize ((c.toNat:Nat):Int)=z2 at *;have hbn2:(z1 != z2)=true:=by simpa using hne
  clear hq hlk hrd hrg hne;go_wp2_with fail;go_ret;exact ⟨by rw [HB.out]; rfl,a1,by rw [HR.out]; exact HAT.out,HRD2.out,HRG2.out⟩
def mustE (c:UInt8) (e:Int) (r:Bs):Int:=if e=0 then (if (signP c r).1 then 0 else 13) else e
theorem must_any (c:UInt8) (hc0:c≠0) (s:ByteArray) (hs:(s.size:Int)≤1000000) (r a:Nat) (d e:Int) (w:World) (h:RD w r s a d e) (ha:(a:Int)≤1500000) :
  Calls Tryz.prog 124 #[.pointer (some ⟨r,0,none⟩),byteV c] w fun x w'=>x=.returned (.tuple #[])∧∃ a',At s a a' (signR c e (s.data.toList.drop a))∧RD w' r s a' d (mustE c e (s.data.toList.drop a))∧RG r w w':=by
 have C:=zY (sign_any c hc0 s hs r a d e w h ha);obtain ⟨X,hX⟩:=eX (s.data.toList.drop a);rw [← hX] at C ⊢;clear h ha hs hX hc0;unfold byteV at C ⊢;obtain ⟨b,hb⟩:=eX (signB c e X);rw [← hb] at C;have HB:=zY hb;clear hb;go_enter Tryz.func124,Tryz.ntmps124;go_wp2_with fail;refine qaa C.out ?_;rintro y w1 ⟨rfl,a1,hat,hrd,hrg⟩;have HAT:=zY hat;have HRD:=zY hrd;have HRG:=zY hrg;clear hat hrd hrg
 cases b with
 | true =>
  have HE:=zY (show mustE c e X=e by
   have:=HB.out;unfold signB at this;unfold mustE
   by_cases he:e=0
   ·simp [he] at this;simp [he,← this]
   ·simp [he])
  go_wp2_with fail
  go_end0
  exact ⟨rfl,a1,HAT.out,by rw [HE.out]; exact HRD.out,HRG.out⟩
 | false =>
  have HE:=zY (show mustE c e X=if e=0 then 13 else e by
   have:=HB.out;unfold signB at this;unfold mustE
   by_cases he:e=0
   ·simp [he] at this;simp [he,← this]
   ·simp [he])
  have CF:=zY (qbn 13 s r a1 d e w1 HRD.out);go_wp2_with fail;refine qaa CF.out ?_;rintro y w2 ⟨rfl,hrd,hrg⟩;have HRD2:=zY hrd;have HRG2:=zY (HRG.out.trans hrg);clear hrd hrg;go_wp2_with fail
  go_end0
  exact ⟨rfl,a1,HAT.out,by rw [HE.out]; exact HRD2.out,HRG2.out⟩
theorem qag:(Tryz.prog.info? 44).map (·.size)=some 5:=by kernel_rfl
theorem hasp_any (s p:ByteArray) (w:World) :
  Calls Tryz.prog 120 #[.string s,.string p] w fun e w'=>e=.returned (.bool (p.data.toList.isPrefixOf s.data.toList))∧w'=w:=by
 show Calls Tryz.prog 120 #[.string s,.string p] w fun e w'=>e=.returned (.bool (Lib.hasPrefix s.data.toList p.data.toList))∧w'=w;rw [← Lib.hasPrefix_of_take,← Lib.size_eq,← Lib.size_eq];go_enter Tryz.func120,Tryz.ntmps120;go_wp2
 ·rename_i h
  go_ret;refine ⟨?_,rfl⟩;show Ending.returned (Value.bool ((s.extract 0 p.size).toList == p.toList))=_;rw [Lib.extract_toList,Lib.toList_data];simp [h]
 ·rename_i h
  go_ret;refine ⟨?_,rfl⟩;show Ending.returned (Value.bool false)=_;simp [h]
theorem extract_rest (s:ByteArray) (a:Nat):(s.extract a s.size).data.toList=s.data.toList.drop a:=by
 rw [Lib.extract_data,List.take_of_length_le];rw [List.length_drop];exact Nat.le_refl _
theorem RG.wrote_new {r g:Nat} {a b c:World} (h:RG r a b) (hw:Wrote g b c) (hg:a.heap.size≤g):RG r a c :=
 ⟨hw.grown.os.trans h.os,hw.grown.tape.trans h.tape,hw.grown.output.trans h.output,Nat.le_trans h.size hw.grown.size,fun k hk hne=>(hw.grown.block k (Nat.lt_of_lt_of_le hk h.size) (by intro e; injection e with e; omega)).trans (h.block k hk hne)⟩
theorem RG.below {r:Nat} {a b:World} (h:Below a.heap.size a b):RG r a b:=qaZ h _
theorem RD.grow {w w':World} {r:Nat} {s:ByteArray} {a:Nat} {d e:Int} (h:RD w r s a d e) (hb:Below w.heap.size w w'):RD w' r s a d e:=Blk.below h hb (Blk.lt h)
theorem word_any (W:Bs) (hW:W.length≤10) (v:JV) (s:ByteArray) (hs:(s.size:Int)≤1000000) (r a:Nat) (d:Int) (w:World) (h:RD w r s a d 0) (ha:a≤s.size) :
  Calls Tryz.prog 99 #[.pointer (some ⟨r,0,none⟩),.string (bs W),.agg (jvCells v)] w fun x w'=>x=.returned (.agg (jvCells (if W.isPrefixOf (s.data.toList.drop a) then v else zJV))) ∧
   RD w' r s (if W.isPrefixOf (s.data.toList.drop a) then a+W.length else a) d (if W.isPrefixOf (s.data.toList.drop a) then 0 else 13)∧RG r w w':=by
 have hu:=Tryz.underlying44;obtain ⟨W0,hW0⟩:=eX ((w.alloc (.cells (jvCells v) 44)).alloc (.cells (jvCells zJV) 44));have hb0:Below w.heap.size w W0:=by rw [hW0]; exact ((Below.refl _ w).alloc (Nat.le_refl _) _).alloc (by simp) _
 obtain ⟨G,hG⟩:=eX (w.heap.size);have HKB:=zY (show Blk W0 G 44 (jvCells v) by rw [hW0,hG]; exact (Blk.new _ _ _).alloc _)
 have HKZ:=zY (show Blk W0 (G+1) 44 (jvCells zJV) by
  have:=Blk.new (w.alloc (.cells (jvCells v) 44)) 44 (jvCells zJV);rw [hW0,hG]
  simpa using this)
 have HRD:=zY (h.grow hb0);have HRG:=zY (show RG r w W0 from .below hb0);have HRL:=zY (show r<G by rw [hG]; exact Blk.lt h);have HW0:=zY hW0;obtain ⟨p,hp⟩:=eX (W.isPrefixOf (s.data.toList.drop a))
 have HC:=zY (fun u=>show Calls Tryz.prog 120 #[.string (s.extract a s.size),.string (bs W)] u fun x w'=>x=.returned (.bool p)∧w'=u by
  have:=hasp_any (s.extract a s.size) (bs W) u;rw [extract_rest,show (bs W).data.toList=W from rfl,← hp] at this;exact this)
 rw [← hp];have ha':(a:Int)≤(s.size:Int):=by omega
 have hwl:((bs W).size:Int)≤10:=by rw [qay]; omega
 have HWL:=zY (qay W);obtain ⟨c0,c1,-,-⟩:=HRD.out.cells;clear hW0 hb0 h hp hW ha;rw [hG] at *;clear hG;go_enter Tryz.func99,Tryz.ntmps99
 go_upto_region 1 with (fail)
 have HW0':_=W0:=HW0.out.symm;rw [show ((w.alloc (.cells (jvCells v) 44)).alloc (.cells #[.int .i64 0,.int .i64 0,.string ⟨#[]⟩,.slice none 0 0,.slice none 0 0] 44))=W0 from HW0'];clear HW0' HW0
 go_quiet (refine Calls.quiet_of_same (HC.out _))
 have HD:=zY (show RD (W0.drewN nq) r s a d 0 from HRD.out);have HG2:=zY (HRG.out.drewN nq);have HK2:=zY (show Blk (W0.drewN nq) w.heap.size 44 (jvCells v) from HKB.out);have HZ2:=zY (show Blk (W0.drewN nq) (w.heap.size+1) 44 (jvCells zJV) from HKZ.out);generalize W0.drewN nq=W1 at *;clear c0 c1 HKB HKZ HRD HRG HC
 cases p with
 | false =>
  have CF:=zY (qbn 13 s r a d 0 W1 HD.out);go_wp2_with fail;refine qaa CF.out ?_;rintro y w2 ⟨rfl,hrd,hrg⟩;have HRD2:=zY (show RD w2 r s a d 13 from hrd);have HRG2:=zY (HG2.out.trans hrg);have HZ3:=zY (show Blk w2 (w.heap.size+1) 44 (jvCells zJV) from (World.grownBy.block hrg _ HZ2.out.lt (by have:=HRL.out; intro h; injection h with h; omega)).trans HZ2.out);clear hrd hrg;go_wp2_with (refine qac (x:=.tmp 6) (cells:=jvCells zJV) HZ3.out rfl rfl rfl rfl qag rfl (qae _) ?_; intro w3 hb3 hw3);have HB3:=zY hb3;have HRD3:=zY (show RD w3 r s a d 13 from hw3.blk HRD2.out (by have:=HRL.out; omega));have HRG3:=zY (show RG r w w3 from HRG2.out.wrote_new hw3 (by omega));refine bodyPost_ret (qah (P:=Tryz.prog) rfl rfl HB3.out hu rfl qag) rfl ?_;exact ⟨rfl,HRD3.out,HRG3.out⟩
 | true =>
  obtain ⟨c0,c1,-,-⟩:=HD.out.cells
  go_wp2_with (first
   | (refine qaf (x:=.tmp 30) (i:=1) HD.out rfl rfl rfl rfl (by kernel_rfl) (by simp [rdCells]) rfl ?_; intro w3 hb3 hw3; have HK3:=zY (hw3.blk HK2.out (by have:=HRL.out; omega)); have HZ3:=zY (hw3.blk HZ2.out (by have:=HRL.out; omega)); have HRD3:=zY hb3; have HW3:=zY hw3; clear hb3 hw3 c0 c1)
   | (refine qad (x:=.tmp 5) (cs:=jvCells v) HK3.out rfl rfl rfl hu rfl qag ?_)
   | (refine qac (x:=.tmp 6) (cells:=jvCells v) HZ3.out rfl rfl rfl rfl qag rfl (qae _) ?_; intro w4 hb4 hw4; have HB4:=zY hb4; have HW4:=zY hw4; clear hb4 hw4))
  refine bodyPost_ret (qah (P:=Tryz.prog) rfl rfl HB4.out hu rfl qag) rfl ?_;refine ⟨rfl,HW4.out.blk ?_ (by have:=HRL.out; omega),(HG2.out.trans (.wrote HW3.out)).wrote_new HW4.out (by omega)⟩;have h:=HRD3.out;rw [HWL.out] at h;exact h
def hexI (c:UInt8):Int:=Lib.indexByte [48,49,50,51,52,53,54,55,56,57,97,98,99,100,101,102] (low c)
theorem hexI_eq (c:UInt8):hexI c=(match hexv (low c) with | some v=>(v:Int) | none=>-1):=by
 have key:∀ k:Fin 256,hexI (UInt8.ofNat k.1)=(match hexv (low (UInt8.ofNat k.1)) with | some v=>(v:Int) | none=>-1):=by decide +kernel
 have:=key ⟨c.toNat,c.toNat_lt⟩
 simpa using this
theorem qci (c:UInt8):-1≤hexI c∧hexI c≤15:=by
 have key:∀ k:Fin 256,-1≤hexI (UInt8.ofNat k.1)∧hexI (UInt8.ofNat k.1)≤15:=by decide +kernel
 have:=key ⟨c.toNat,c.toNat_lt⟩
 simpa using this
def hexBad (x y:Int):Bool:=decide (x<0) || decide (y<0) || decide (126<16*x+y)
theorem hexP_no (c d:UInt8) (h:hexBad (hexI c) (hexI d)=true):hexP 48 48 c d=none:=by
 rw [hexI_eq,hexI_eq] at h;unfold hexP;rw [if_pos ⟨rfl,rfl⟩]
 cases hc:hexv (low c) with
 | none=>rfl
 | some x =>
  cases hd:hexv (low d) with
  | none=>rfl
  | some y =>
   simp only [hc,hd,hexBad,Bool.or_eq_true,decide_eq_true_eq] at h;simp only [];rw [if_neg (by omega)]
theorem hexP_yes (c d:UInt8) (h:hexBad (hexI c) (hexI d)=false):0≤hexI c∧0≤hexI d∧16*hexI c+hexI d≤126∧hexP 48 48 c d=some (UInt8.ofNat (16*hexI c+hexI d).toNat):=by
 rw [hexI_eq,hexI_eq] at h ⊢;unfold hexP;rw [if_pos ⟨rfl,rfl⟩]
 cases hc:hexv (low c) with
 | none=>simp [hc,hexBad] at h
 | some x =>
  cases hd:hexv (low d) with
  | none=>simp [hd,hexBad] at h
  | some y =>
   simp only [hc,hd,hexBad,Bool.or_eq_false_iff,decide_eq_false_iff_not] at h;simp only [];rw [if_pos (by omega)];refine ⟨by omega,by omega,by omega,?_⟩
   congr 2
theorem qcW {L T:Bs} (hT:T=L.tail.take 4) (h:esc (look L)=none) (hb:¬ (look L=117∧T.length=4∧T.take 2=[48,48])):escP L=none:=by
 cases L with
 | nil=>rfl
 | cons d r =>
  simp only [look] at h hb;simp only [List.tail_cons] at hT;simp only [escP,h]
  by_cases hd:d=117
  ·rw [if_pos hd]
   match r,hT with
   | [],_=>rfl
   | [_],_=>rfl
   | [_,_],_=>rfl
   | [_,_,_],_=>rfl
   | a0 :: a1 :: a2 :: a3 :: r2,hT =>
    have:¬ (a0=48∧a1=48):=fun ⟨h0,h1⟩=>hb ⟨hd,by rw [hT]; simp,by rw [hT,h0,h1]; rfl⟩;simp only [hexP,if_neg this]
  ·rw [if_neg hd]
theorem escP_u {L T:Bs} {c d:UInt8} (hT:T=L.tail.take 4) (h:esc (look L)=none) (h1:look L=117) (h4:T=[48,48,c,d]) :
  escP L=match hexP 48 48 c d with | some b=>some (b,L.drop 5) | none=>none:=by
 cases L with
 | nil=>rw [hT] at h4; simp at h4
 | cons x r =>
  simp only [look] at h h1;simp only [List.tail_cons] at hT;rw [hT] at h4;simp only [escP,h];rw [if_pos h1]
  match r,h4 with
  | [],h4=>simp at h4
  | [_],h4=>simp at h4
  | [_,_],h4=>simp at h4
  | [_,_,_],h4=>simp at h4
  | a0 :: a1 :: a2 :: a3 :: r2,h4 =>
   simp only [List.take_succ_cons,List.take_zero,List.cons.injEq,and_true] at h4;obtain ⟨rfl,rfl,rfl,rfl⟩:=h4;show (match hexP 48 48 a2 a3 with | some b=>some (b,r2) | none=>none)=_;simp only [List.drop_succ_cons,List.drop_zero]
theorem escP_esc {L:Bs} {b:UInt8} (h:esc (look L)=some b):escP L=some (b,L.tail):=by
 cases L with
 | nil=>simp [look,esc] at h
 | cons d r =>
  simp only [look] at h;simp only [escP,h,List.tail_cons]
theorem esc_low {c b:UInt8} (h:esc c=some b):c≠0:=fun h0=>by rw [h0] at h; simp [esc] at h
def escE:Option (UInt8 × Bs)→Int
 | none=>13
 | some _=>0
def escV:Option (UInt8 × Bs)→UInt8
 | none=>0
 | some (b,_)=>b
def rqCells (s:ByteArray) (a e:Int):Array Value:=#[.string s,.int .i64 a,.int .i64 e]
def RQ (w:World) (r:Nat) (s:ByteArray) (a:Nat) (e:Int):Prop:=Blk w r 88 (rqCells s a e)
theorem RQ.cells {w:World} {r:Nat} {s:ByteArray} {a:Nat} {e:Int} (h:RQ w r s a e) :
  w.cell? ⟨r,0,none⟩=some (.string s)∧w.cell? ⟨r,1,none⟩=some (.int .i64 (a:Int))∧w.cell? ⟨r,2,none⟩=some (.int .i64 e):=⟨Blk.cell h 0,Blk.cell h 1,Blk.cell h 2⟩
theorem RQ.grow {w w':World} {r:Nat} {s:ByteArray} {a:Nat} {e:Int} (h:RQ w r s a e) (hb:Below w.heap.size w w'):RQ w' r s a e:=Blk.below h hb (Blk.lt h)
theorem qdb (c:Int) (s:ByteArray) (r a:Nat) (e:Int) (w:World) (h:RQ w r s a e) :
  Calls Tryz.prog 49 #[.pointer (some ⟨r,0,none⟩),.int .i64 c] w fun x w'=>x=.returned (.tuple #[])∧RQ w' r s a (if e=0 then c else e)∧RG r w w':=by
 obtain ⟨c0,c1,c2⟩:=h.cells;have H:=zY h;clear h c0 c1
 by_cases he:e=0
 ·subst he;go_enter Tryz.func49,Tryz.ntmps49;go_wp2_with (refine qaf (x:=.tmp 12) (i:=2) H.out rfl rfl rfl rfl (by kernel_rfl) (by simp [rqCells]) rfl ?_; intro w1 hb1 hw1)
  go_end0
  exact ⟨rfl,hb1,.wrote hw1⟩
 ·have he':(e == 0)=false:=by simpa using he
  have HE:=zY he;clear he;go_enter Tryz.func49,Tryz.ntmps49;go_wp2_with fail
  go_end0
  first
   | exact ⟨rfl,H.out,RG.refl _ _⟩
   | exact ⟨rfl,by rw [if_neg HE.out]; exact H.out,RG.refl _ _⟩
def atI (w:World) (r:Nat):Nat:=(intOf ((w.cell? ⟨r,1,none⟩).getD undef)).toNat
theorem RQ.atI {w:World} {r:Nat} {s:ByteArray} {a:Nat} {e:Int} (h:RQ w r s a e):atI w r=a:=by
 unfold Js.atI;rw [h.cells.2.1];simp [intOf]
theorem qb9 {c k:UInt8} {z:Int} (hz:z=((c.toNat:Nat):Int)) (h:c≠k):(z == ((k.toNat:Nat):Int))=false:=by
 simp only [beq_eq_false_iff_ne,ne_eq];intro h2;exact h (UInt8.toNat.inj (by omega))
theorem qb7 {s:ByteArray} {a n:Nat} (h:a+n≤s.size):(s.extract a (a+n)).toList=(s.data.toList.drop a).take n:=by
 rw [Lib.toList_data,ByteArray.data_extract,Array.toList_extract];simp [List.extract]
def hexZ (z:Int):Int:=if 48≤z∧z≤57 then z - 48 else if 97≤z∧z≤102 then z - 97+10 else if 65≤z∧z≤70 then z - 65+10 else -1
theorem hexZ_eq (c:UInt8):hexZ ((c.toNat:Nat):Int)=hexI c:=by
 have key:∀ x:Fin 256,hexZ (((UInt8.ofNat x.1).toNat:Nat):Int)=hexI (UInt8.ofNat x.1):=by decide +kernel
 have:=key ⟨c.toNat,c.toNat_lt⟩
 simpa using this
theorem rhexz_any (z:Int) (h0:0≤z) (h1:z≤255) (w:World):Calls Tryz.prog 106 #[.int .u8 z] w fun e w'=>e=.returned (.int .i64 (hexZ z))∧w'=w:=by
 have hc:(0≤z∧z≤47)∨(48≤z∧z≤57)∨(58≤z∧z≤64)∨(65≤z∧z≤70)∨(71≤z∧z≤96)∨(97≤z∧z≤102)∨(103≤z∧z≤255):=by omega
 rcases hc with ⟨l,h⟩ | ⟨l,h⟩ | ⟨l,h⟩ | ⟨l,h⟩ | ⟨l,h⟩ | ⟨l,h⟩ | ⟨l,h⟩
 ·clear h0 h1;have HV:=zY (show hexZ z=-1 by unfold hexZ; repeat (first | rw [if_pos (by omega)] | rw [if_neg (by omega)]));have:¬ 48≤z:=by omega
  have:z≤57:=by omega
  have:¬ 97≤z:=by omega
  have:z≤102:=by omega
  have:¬ 65≤z:=by omega
  have:z≤70:=by omega
  go_enter Tryz.func106,Tryz.ntmps106;go_wp2_with fail;go_ret;exact ⟨by rw [HV.out]; rfl,rfl⟩
 ·clear h0 h1;have HV:=zY (show hexZ z=z - 48 by unfold hexZ; repeat (first | rw [if_pos (by omega)] | rw [if_neg (by omega)]));have:48≤z:=by omega
  have:z≤57:=by omega
  have:¬ 97≤z:=by omega
  have:z≤102:=by omega
  have:¬ 65≤z:=by omega
  have:z≤70:=by omega
  go_enter Tryz.func106,Tryz.ntmps106;go_wp2_with fail;go_ret;exact ⟨by rw [HV.out]; rfl,rfl⟩
 ·clear h0 h1;have HV:=zY (show hexZ z=-1 by unfold hexZ; repeat (first | rw [if_pos (by omega)] | rw [if_neg (by omega)]));have:48≤z:=by omega
  have:¬ z≤57:=by omega
  have:¬ 97≤z:=by omega
  have:z≤102:=by omega
  have:¬ 65≤z:=by omega
  have:z≤70:=by omega
  go_enter Tryz.func106,Tryz.ntmps106;go_wp2_with fail;go_ret;exact ⟨by rw [HV.out]; rfl,rfl⟩
 ·clear h0 h1;have HV:=zY (show hexZ z=z - 65+10 by unfold hexZ; repeat (first | rw [if_pos (by omega)] | rw [if_neg (by omega)]));have:48≤z:=by omega
  have:¬ z≤57:=by omega
  have:¬ 97≤z:=by omega
  have:z≤102:=by omega
  have:65≤z:=by omega
  have:z≤70:=by omega
  go_enter Tryz.func106,Tryz.ntmps106;go_wp2_with fail;go_ret;exact ⟨by rw [HV.out]; rfl,rfl⟩
 ·clear h0 h1;have HV:=zY (show hexZ z=-1 by unfold hexZ; repeat (first | rw [if_pos (by omega)] | rw [if_neg (by omega)]));have:48≤z:=by omega
  have:¬ z≤57:=by omega
  have:¬ 97≤z:=by omega
  have:z≤102:=by omega
  have:65≤z:=by omega
  have:¬ z≤70:=by omega
  go_enter Tryz.func106,Tryz.ntmps106;go_wp2_with fail;go_ret;exact ⟨by rw [HV.out]; rfl,rfl⟩
 ·clear h0 h1;have HV:=zY (show hexZ z=z - 97+10 by unfold hexZ; repeat (first | rw [if_pos (by omega)] | rw [if_neg (by omega)]));have:48≤z:=by omega
  have:¬ z≤57:=by omega
  have:97≤z:=by omega
  have:z≤102:=by omega
  have:65≤z:=by omega
  have:¬ z≤70:=by omega
  go_enter Tryz.func106,Tryz.ntmps106;go_wp2_with fail;go_ret;exact ⟨by rw [HV.out]; rfl,rfl⟩
 ·clear h0 h1;have HV:=zY (show hexZ z=-1 by unfold hexZ; repeat (first | rw [if_pos (by omega)] | rw [if_neg (by omega)]));have:48≤z:=by omega
  have:¬ z≤57:=by omega
  have:97≤z:=by omega
  have:¬ z≤102:=by omega
  have:65≤z:=by omega
  have:¬ z≤70:=by omega
  go_enter Tryz.func106,Tryz.ntmps106;go_wp2_with fail;go_ret;exact ⟨by rw [HV.out]; rfl,rfl⟩
end Go.Proofs.YtlkikjeccamheaaGreatDoor.Js
namespace Go.Proofs.YtlkikjeccamheaaGreatDoor
set_option linter.unusedSimpArgs false
set_option linter.unusedVariables false
set_option maxRecDepth 100000
set_option maxHeartbeats 4000000
open Go.RowKit
def MapB (w:World) (g:Nat) (es:Array MapEntry):Prop:=w.heap[g]?=some (.map es es.size)
theorem MapB.lt {w:World} {g:Nat} {es:Array MapEntry} (h:MapB w g es):g<w.heap.size:=(Array.getElem?_eq_some_iff.1 h).1
theorem MapB.new (w:World):MapB (w.alloc (.map #[] 0)) w.heap.size #[]:=heap_alloc_new w _
section
variable {P:Program} {w:World} {ops:Array Oper} {rest:List Oper} {o:Oper} {a:Act} {Q:Exit→Act→World→Prop}
theorem run_insert8 {t k e:TypeId} {g:Nat} {es:Array MapEntry} {x:Int} {v:Value} (ht:P.underlying t=some (.map k e)) (hk:P.underlying k=some (.int .u8)) (hm:MapB w g es) (hf:Instr.findNow (.int .u8) (.int .u8 x) es.toList 0=some none) :
  ∃ w',(Instr.mapUpdate t (.map (some g)) (.int .u8 x) v).run P w=.ok () w'∧MapB w' g (es.push ⟨.int .u8 x,v,es.size⟩)∧w.grownBy w' (some g):=by
 unfold MapB at hm;have hlt:g<w.heap.size:=(Array.getElem?_eq_some_iff.1 hm).1;have hc:(Instr.checkKey false 10000 k (.int .u8 x)).run P w=.ok () w:=MapKept.run_checkKey (k:=.int .u8 x) hk (by simp [MapKept.IsKey]) false 9999;refine ⟨{ w with heap:=w.heap.setIfInBounds g (.map (es.push ⟨.int .u8 x,v,es.size⟩) (es.size+1)) },?_,?_,?_⟩
 ·simp [Instr.mapUpdate,run_underlying ht,MapKept.run_getObj_map hm,hc,MapKept.run_findKey hk hf,MapKept.run_setObj_map _ hm,Result.andThen]
 ·unfold MapB;simp [hlt]
 ·refine ⟨rfl,rfl,rfl,by simp,fun i hi hne=>?_⟩;have:g≠i:=fun h=>hne (by rw [h]);simp [this]
theorem qav {t k e:TypeId} {g:Nat} {es:Array MapEntry} {x:Int} {v:Value} {om ok ov:Operand} (ht:P.underlying t=some (.map k e)) (hk:P.underlying k=some (.int .u8)) (hgd:o.guard=none) (ho:o.op=.insert t om ok ov)
  (hom:a.eval om=.map (some g)) (hok:a.eval ok=.int .u8 x) (hov:a.eval ov=v) (hm:MapB w g es) (hf:Instr.findNow (.int .u8) (.int .u8 x) es.toList 0=some none)
  (h:∀ w',MapB w' g (es.push ⟨.int .u8 x,v,es.size⟩)→w.grownBy w' (some g)→wpList P ops Q rest (a.put o.dst undef) w'):wpList P ops Q (o :: rest) a w:=by
 refine wpList_plain hgd fun K hK=>?_;obtain ⟨w',hr,h1,h2⟩:=run_insert8 (P:=P) (v:=v) ht hk hm hf;unfold Oper.wp;simp [execOp,ho,hom,hok,hov,hr,Result.andThen];exact hK _ _ (h w' h1 h2)
def found8 (z:Value):Option (Nat × Value)→Value × Bool
 | some (_,v)=>(v,true)
 | none=>(z,false)
theorem qdv {t k e:TypeId} {g:Nat} {es:Array MapEntry} {x:Int} {z:Value} {r:Option (Nat × Value)} (c:Bool) (ht:P.underlying t=some (.map k e)) (hk:P.underlying k=some (.int .u8)) (hm:MapB w g es) (hf:Instr.findNow (.int .u8) (.int .u8 x) es.toList 0=some r)
  (hz:(zeroValue e).run P w=.ok z w):(Instr.lookup t (.map (some g)) (.int .u8 x) c).run P w=.ok (if c then .tuple #[(found8 z r).1,.bool (found8 z r).2] else (found8 z r).1) w:=by
 unfold MapB at hm;have hc:(Instr.checkKey es.isEmpty 10000 k (.int .u8 x)).run P w=.ok () w:=MapKept.run_checkKey (k:=.int .u8 x) hk (by simp [MapKept.IsKey]) _ 9999
 cases r with
 | none=>cases c <;> simp [Instr.lookup,run_underlying ht,MapKept.run_getObj_map hm,hc,MapKept.run_findKey hk hf,hz,Result.andThen,found8]
 | some p=>cases c <;> simp [Instr.lookup,run_underlying ht,MapKept.run_getObj_map hm,hc,MapKept.run_findKey hk hf,Result.andThen,found8]
end
end Go.Proofs.YtlkikjeccamheaaGreatDoor
namespace Go.Proofs.YtlkikjeccamheaaGreatDoor.Js
set_option linter.unusedSimpArgs false
set_option linter.unusedVariables false
set_option maxRecDepth 100000
set_option maxHeartbeats 4000000
open Go.RowKit
def mE (k v:Int) (b:Nat):MapEntry:=⟨.int .u8 k,.int .u8 v,b⟩
def signsE:Array MapEntry:=#[mE 34 34 0,mE 92 92 1,mE 47 47 2,mE 98 8 3,mE 102 12 4,mE 110 10 5,mE 114 13 6,mE 116 9 7]
theorem signs_any (w:World):Calls Tryz.prog 133 #[] w fun x w'=>x=.returned (.map (some w.heap.size))∧MapB w' w.heap.size signsE∧Below w.heap.size w w':=by
 have ht:=Tryz.underlying167;have hk:=Tryz.underlying5;have hmm:=@run_makeMap Tryz.prog;have HB:=zY ((Below.refl w.heap.size w).alloc (Nat.le_refl _) (.map #[] 0));have M0:=zY (MapB.new w);go_enter Tryz.func133,Tryz.ntmps133
 go_wp2_with (first
  | (refine qav (x:=34) ht hk rfl rfl rfl rfl rfl M0.out rfl ?_; intro w1 m1 g1; have M1:=zY m1; have G1:=zY (HB.out.grown g1 HB.out.size (by intro k h; injection h with h; omega)); clear m1 g1)
  | (refine qav (x:=92) ht hk rfl rfl rfl rfl rfl M1.out rfl ?_; intro w2 m2 g2; have M2:=zY m2; have G2:=zY (G1.out.grown g2 G1.out.size (by intro k h; injection h with h; omega)); clear m2 g2)
  | (refine qav (x:=47) ht hk rfl rfl rfl rfl rfl M2.out rfl ?_; intro w3 m3 g3; have M3:=zY m3; have G3:=zY (G2.out.grown g3 G2.out.size (by intro k h; injection h with h; omega)); clear m3 g3)
  | (refine qav (x:=98) ht hk rfl rfl rfl rfl rfl M3.out rfl ?_; intro w4 m4 g4; have M4:=zY m4; have G4:=zY (G3.out.grown g4 G3.out.size (by intro k h; injection h with h; omega)); clear m4 g4)
  | (refine qav (x:=102) ht hk rfl rfl rfl rfl rfl M4.out rfl ?_; intro w5 m5 g5; have M5:=zY m5; have G5:=zY (G4.out.grown g5 G4.out.size (by intro k h; injection h with h; omega)); clear m5 g5)
  | (refine qav (x:=110) ht hk rfl rfl rfl rfl rfl M5.out rfl ?_; intro w6 m6 g6; have M6:=zY m6; have G6:=zY (G5.out.grown g6 G5.out.size (by intro k h; injection h with h; omega)); clear m6 g6)
  | (refine qav (x:=114) ht hk rfl rfl rfl rfl rfl M6.out rfl ?_; intro w7 m7 g7; have M7:=zY m7; have G7:=zY (G6.out.grown g7 G6.out.size (by intro k h; injection h with h; omega)); clear m7 g7)
  | (refine qav (x:=116) ht hk rfl rfl rfl rfl rfl M7.out rfl ?_; intro w8 m8 g8; have M8:=zY m8; have G8:=zY (G7.out.grown g8 G7.out.size (by intro k h; injection h with h; omega)); clear m8 g8))
 go_ret;exact ⟨rfl,M8.out,G8.out⟩
theorem signs_found (c:UInt8):∃ r,Instr.findNow (.int .u8) (.int .u8 ((c.toNat:Nat):Int)) signsE.toList 0=some r ∧
  found8 (.int .u8 0) r=(match esc c with | some b=>(byteV b,true) | none=>(.int .u8 0,false)):=by
 have hne:∀ k:UInt8,c≠k→(((c.toNat:Nat):Int) == ((k.toNat:Nat):Int))=false:=fun k h=>by
  simp only [beq_eq_false_iff_ne,ne_eq];intro h2;exact h (UInt8.toNat.inj (by omega))
 by_cases h1:c=34
 ·subst h1; exact ⟨_,rfl,rfl⟩
 by_cases h2:c=92
 ·subst h2; exact ⟨_,rfl,rfl⟩
 by_cases h3:c=47
 ·subst h3; exact ⟨_,rfl,rfl⟩
 by_cases h4:c=98
 ·subst h4; exact ⟨_,rfl,rfl⟩
 by_cases h5:c=102
 ·subst h5; exact ⟨_,rfl,rfl⟩
 by_cases h6:c=110
 ·subst h6; exact ⟨_,rfl,rfl⟩
 by_cases h7:c=114
 ·subst h7; exact ⟨_,rfl,rfl⟩
 by_cases h8:c=116
 ·subst h8; exact ⟨_,rfl,rfl⟩
 refine ⟨none,?_,?_⟩
 ·have e1:=hne _ h1; have e2:=hne _ h2; have e3:=hne _ h3; have e4:=hne _ h4; have e5:=hne _ h5; have e6:=hne _ h6; have e7:=hne _ h7; have e8:=hne _ h8;simp only [signsE,mE,Instr.findNow,Instr.sameNow,if_true];rw [show ((34:UInt8).toNat:Int)=34 from rfl] at e1;rw [show ((92:UInt8).toNat:Int)=92 from rfl] at e2;rw [show ((47:UInt8).toNat:Int)=47 from rfl] at e3;rw [show ((98:UInt8).toNat:Int)=98 from rfl] at e4;rw [show ((102:UInt8).toNat:Int)=102 from rfl] at e5;rw [show ((110:UInt8).toNat:Int)=110 from rfl] at e6;rw [show ((114:UInt8).toNat:Int)=114 from rfl] at e7;rw [show ((116:UInt8).toNat:Int)=116 from rfl] at e8;simp only [e1,e2,e3,e4,e5,e6,e7,e8]
 ·have:esc c=none:=by simp [esc,h1,h2,h3,h4,h5,h6,h7,h8]
  rw [this];rfl
theorem lower_any (c:UInt8) (w:World):Calls Tryz.prog 134 #[byteV c] w fun x w'=>x=.returned (byteV (low c))∧w'=w:=by
 unfold byteV;obtain ⟨z,hz⟩:∃ z:Int,z=((c.toNat:Nat):Int):=⟨_,rfl⟩
 have HV:=zY (show (((low c).toNat:Nat):Int)=if 65≤z∧z≤70 then z+32 else z by
  unfold low
  by_cases h:65≤c∧c≤70
  ·have h1:65≤c.toNat∧c.toNat≤70:=by simpa [UInt8.le_iff_toNat_le] using h
   rw [if_pos h,if_pos (by omega),UInt8.toNat_add,hz];show (((c.toNat+32)%256:Nat):Int)=_;omega
  ·have h1:¬ (65≤c.toNat∧c.toNat≤70):=by simpa [UInt8.le_iff_toNat_le] using h
   rw [if_neg h,if_neg (by omega),hz])
 have h0:0≤z:=by omega
 have h255:z<256:=by have:=c.toNat_lt; omega
 rw [← hz,HV.out];clear hz
 by_cases h1:65≤z
 ·by_cases h2:z≤70
  ·go_enter Tryz.func134,Tryz.ntmps134;go_wp2_with fail;go_ret;exact ⟨by first | rfl | (rw [if_pos ⟨h1,h2⟩]; rfl) | (simp [h1,h2]; omega),rfl⟩
  ·go_enter Tryz.func134,Tryz.ntmps134;go_wp2_with fail;go_ret;exact ⟨by first | rfl | (rw [if_neg (fun h=>h2 h.2)]; rfl) | (simp [h1,h2]; omega),rfl⟩
 ·go_enter Tryz.func134,Tryz.ntmps134;go_wp2_with fail;go_ret;exact ⟨by first | rfl | (rw [if_neg (fun h=>h1 h.1)]; rfl) | (simp [h1]; omega),rfl⟩
theorem min_runI (x y k:Int) (h:k=if x≤y then x else y) (ts:Array TypeId) (t:TypeId) (u:World):(Builtin.min_ ts t #[.int .i64 x,.int .i64 y]).run Tryz.prog u=.ok (.int .i64 k) u:=by
 by_cases h1:x≤y
 ·rw [if_pos h1] at h;subst h;have h3:¬ y<k:=by omega
  simp [Builtin.min_,Builtin.min2,List.foldlM]
  try omega
 ·rw [if_neg h1] at h;subst h;have h3:k<x:=by omega
  simp [Builtin.min_,Builtin.min2,List.foldlM]
  try omega
theorem escape_any (s:ByteArray) (hs:(s.size:Int)≤1000000) (r a:Nat) (d:Int) (w:World) (h:RD w r s a d 0) (ha:a≤s.size) :
  Calls Tryz.prog 121 #[.pointer (some ⟨r,0,none⟩)] w fun x w'=>x=.returned (byteV (escV (escP (s.data.toList.drop a))))∧∃ a':Nat,(a':Int)≤(s.size:Int)+5 ∧
   (∀ b r',escP (s.data.toList.drop a)=some (b,r')→At s a a' r') ∧
   RD w' r s a' d (escE (escP (s.data.toList.drop a)))∧RG r w w':=by
 obtain ⟨X,hX⟩:=eX (s.data.toList.drop a);have HX:=zY hX;have HA:=zY ha;have ht:=Tryz.underlying167;have hk:=Tryz.underlying5;rw [← hX];have HRD0:=zY h;have CK:=zY (fun (u:World) (h:RD u r s a d 0)=>qbQ s r a d 0 u h);have CF:=zY (fun (b:Nat) (u:World) (h:RD u r s b d 0)=>qbn 13 s r b d 0 u h);have CS:=zY (fun (u:World)=>signs_any u);have CL:=zY (fun (c:UInt8) (u:World)=>lower_any c u);have CI:=zY (fun (c:Int) (u:World)=>idxb_any ⟨#[48,49,50,51,52,53,54,55,56,57,97,98,99,100,101,102]⟩ c u);have ha':(a:Int)≤(s.size:Int):=by omega
 clear h hX ha;go_enter Tryz.func121,Tryz.ntmps121;go_wp2_with fail;refine qaa (CK.out _ HRD0.out) ?_;rintro y w1 ⟨rfl,hrd,hrg⟩;have HRD1:=zY hrd;have HRG1:=zY hrg;have HLK:=zY (show lookE s a 0=look X by rw [lookE,if_pos rfl,HX.out]);obtain ⟨c0,c1,-,-⟩:=hrd.cells;rw [HLK.out];clear hrd hrg;obtain ⟨c,hc⟩:=eX (look X);rw [← hc];have HC:=zY hc;obtain ⟨b,hb⟩:=eX (a+1);have HB:=zY hb;have hbI:(a:Int)+1=(b:Int):=by omega
 have HBI:=zY hbI;clear hc hb hbI;go_wp2_with (refine qaf (x:=.tmp 17) (i:=1) HRD1.out rfl rfl rfl rfl (by kernel_rfl) (by simp [rdCells]) rfl ?_; intro w2 hb2 hw2)
 have HRD2:=zY (show RD w2 r s b d 0 from by
  show Blk w2 r _ #[.string s,.int .i64 ((b:Nat):Int),.int .i64 d,.int .i64 0];rw [← HBI.out];exact hb2)
 have HRG2:=zY (HRG1.out.trans (.wrote hw2));clear hb2 hw2 c0 c1 ha';refine qaa (CS.out _) ?_;rintro y w3 ⟨rfl,hm,hbl⟩;have HRD3:=zY (HRD2.out.grow hbl);have HRG3:=zY (HRG2.out.trans (.below hbl));obtain ⟨res,hf1,hf2⟩:=signs_found c;have hz:(zeroValue 5).run Tryz.prog w3=.ok (.int .u8 0) w3:=by first | rfl | (simp; done) | kernel_rfl
 have hlk:=qdv (P:=Tryz.prog) (w:=w3) true ht hk hm hf1 hz;rw [if_pos rfl,hf2] at hlk;clear hbl hm hf1 hf2 hz;unfold byteV at hlk ⊢;obtain ⟨z,hzz⟩:∃ z:Int,z=((c.toNat:Nat):Int):=⟨_,rfl⟩;rw [← hzz] at hlk ⊢;have HZ:=zY hzz;clear hzz
 cases hesc:esc c with
 | some b1 =>
  have HE:=zY (show escP X=some (b1,X.tail) from escP_esc (by rw [← HC.out]; exact hesc));have HLT:=zY (show a<s.size from qba (by rw [← HX.out,← HC.out]; exact esc_low hesc));rw [hesc] at hlk;simp only [] at hlk;clear hesc;go_wp2_with fail;go_ret;rw [HE.out];refine ⟨rfl,b,by have:=HLT.out; have:=HB.out; omega,fun x r' h=>?_,HRD3.out,HRG3.out⟩
  injection h with h
  injection h with h1 h2
  subst h2;exact ⟨by have:=HB.out; omega,.inr (by have:=HLT.out; have:=HB.out; omega),by rw [HB.out,qaK,← HX.out]⟩
 | none =>
  have HEN:=zY (show esc (look X)=none by rw [← HC.out]; exact hesc);rw [hesc] at hlk;simp only [] at hlk;clear hesc
  go_upto_region 6 with (fail)
  clear hlk;obtain ⟨c0,c1,-,-⟩:=HRD3.out.cells;obtain ⟨lo,hlo⟩:∃ lo:Nat,lo=min b s.size:=⟨_,rfl⟩;obtain ⟨hi,hhi⟩:∃ hi:Nat,hi=min (b+4) s.size:=⟨_,rfl⟩;have hb6:(b:Int)≤1000001:=by have:=HB.out; have:=HA.out; omega
  have hw4:wrap64 ((b:Int)+4)=(b:Int)+4:=by unfold wrap64; omega
  have hm1:=min_runI (b:Int) (s.size:Int) (lo:Int) (by rw [hlo]; split <;> omega);have hm2:=min_runI ((b:Int)+4) (s.size:Int) (hi:Int) (by rw [hhi]; split <;> omega);have hl1:(lo:Int)≤(hi:Int):=by omega
  have hl2:(hi:Int)≤(s.size:Int):=by omega
  have HLO:=zY hlo;have HHI:=zY hhi;clear hlo hhi hb6
  go_quiet (fail)
  have HTD:=zY (show (s.extract lo hi).data.toList=X.tail.take 4 by
   rw [Lib.extract_data,HX.out,← qaK,← HB.out,HLO.out,HHI.out];have h5:s.data.toList.length=s.size:=rfl
   by_cases h:b≤s.size
   ·rw [Nat.min_eq_left h]
    by_cases h4:b+4≤s.size
    ·rw [Nat.min_eq_left h4,show b+4 - b=4 by omega]
    ·rw [Nat.min_eq_right (by omega),List.take_of_length_le (by simp <;> omega),List.take_of_length_le (by simp <;> omega)]
   ·rw [Nat.min_eq_right (by omega),Nat.min_eq_right (by omega),show s.data.toList.drop b=[] from List.drop_eq_nil_of_le (by show s.size≤b; omega)]
    simp)
  have HRD4:=zY (show RD (w3.drewN nq) r s b d 0 from HRD3.out);have HRG4:=zY (HRG3.out.drewN nq);generalize s.extract lo hi=T at *;generalize w3.drewN nq=w4 at *;clear hm1 hm2 hl1 hl2 c0 c1;obtain ⟨c0,c1,-,-⟩:=HRD4.out.cells;obtain ⟨TT,hTT⟩:=eX (T.data.toList);have HTT:=zY hTT;have HTX:=zY (show TT=X.tail.take 4 by rw [hTT,HTD.out]);have HTS:=zY (show T.size=TT.length by rw [hTT]; rfl);clear hTT
  go_upto_region 8 with (refine qaf (x:=.tmp 58) (i:=1) HRD4.out rfl rfl rfl rfl (by kernel_rfl) (by simp [rdCells]) rfl ?_; intro w5 hb5 hw5)
  have HRD5:=zY (show RD w5 r s (b+4) d 0 from by
   show Blk w5 r _ #[.string s,.int .i64 ((b+4:Nat):Int),.int .i64 d,.int .i64 0];have e:((b+4:Nat):Int)=(b:Int)+4:=by omega
   rw [e];simp only [hw4] at hb5;exact hb5)
  have HRG5:=zY (HRG4.out.trans (.wrote hw5));clear hb5 hw5 c0 c1 hw4;obtain ⟨bad,hbad⟩:=eX (!(decide (look X=117) && decide (TT.length=4) && decide (TT.take 2=[48,48])));have HBAD:=zY hbad;clear hbad;dsimp only [Act.put]
  by_cases h1:look X=117
  case neg =>
   have HN:=zY (show escP X=none from qcW HTX.out HEN.out (fun h=>h1 h.1))
   have hqz:(z == 117)=false:=by
    rw [HZ.out,HC.out];simp only [beq_eq_false_iff_ne,ne_eq];intro h;exact h1 (UInt8.toNat.inj (by show (look X).toNat=117; omega))
   have hqz2:(z != 117)=true:=by rw [bne,hqz]; rfl
   clear h1;go_wp2_with fail;refine qaa (CF.out _ _ HRD5.out) ?_;rintro y w6 ⟨rfl,hrd,hrg⟩;have HRD6:=zY (show RD w6 r s (b+4) d 13 from hrd);have HRG6:=zY (HRG5.out.trans hrg);clear hrd hrg;go_wp2_with fail;go_ret;rw [HN.out];refine ⟨rfl,b+4,by have:=HA.out; have:=HB.out; omega,fun x r' h=>?_,HRD6.out,HRG6.out⟩
   cases h
  case pos =>
  have hz:z=117:=by rw [HZ.out,HC.out,h1]; rfl
  subst hz;have H1:=zY h1;have hle4:TT.length≤4:=by rw [HTX.out,List.length_take]; exact Nat.min_le_left _ _
  clear h1
  by_cases h2:TT.length=4
  case neg =>
   have HN:=zY (show escP X=none from qcW HTX.out HEN.out (fun h=>h2 h.2.1));have ht4:(T.size:Int)<4:=by rw [HTS.out]; omega
   clear h2 hle4;go_wp2_with fail;refine qaa (CF.out _ _ HRD5.out) ?_;rintro y w6 ⟨rfl,hrd,hrg⟩;have HRD6:=zY (show RD w6 r s (b+4) d 13 from hrd);have HRG6:=zY (HRG5.out.trans hrg);clear hrd hrg;go_wp2_with fail;go_ret;rw [HN.out];refine ⟨rfl,b+4,by have:=HA.out; have:=HB.out; omega,fun x r' h=>?_,HRD6.out,HRG6.out⟩
   cases h
  case pos =>
  have ht4:(4:Int)=(T.size:Int):=by rw [HTS.out]; omega
  have hts:¬ (T.size:Int)<4:=by omega
  have ht2:(2:Int)≤(T.size:Int):=by omega
  obtain ⟨q3,hq⟩:=eX (((T.extract 0 2).toList == [48,48]))
  have HQ:=zY (show q3=decide (TT.take 2=[48,48]) by
   rw [hq,Lib.toList_data,Lib.extract_data,← HTT.out,Bool.eq_iff_iff,beq_iff_eq,decide_eq_true_iff]
   simp)
  have H2:=zY h2;replace hq:=hq.symm;clear h2 hle4 ht4
  cases q3 with
  | false =>
   have HN:=zY (show escP X=none from qcW HTX.out HEN.out (fun h=>by
    have:=HQ.out;rw [h.2.2] at this;simp at this))
   go_wp2_with fail;refine qaa (CF.out _ _ HRD5.out) ?_;rintro y w6 ⟨rfl,hrd,hrg⟩;have HRD6:=zY (show RD w6 r s (b+4) d 13 from hrd);have HRG6:=zY (HRG5.out.trans hrg);clear hrd hrg;go_wp2_with fail;go_ret;rw [HN.out];refine ⟨rfl,b+4,by have:=HA.out; have:=HB.out; omega,fun x r' h=>?_,HRD6.out,HRG6.out⟩
   cases h
  | true =>
   obtain ⟨x,y,hxy⟩:∃ x y,TT=[48,48,x,y]:=by
    have h1:=HQ.out;have h2:=H2.out;rw [eq_comm,decide_eq_true_iff] at h1
    match TT,h2,h1 with
    | [a0,a1,a2,a3],_,h1 =>
     simp only [List.take_succ_cons,List.take_zero,List.cons.injEq,and_true] at h1;obtain ⟨rfl,rfl⟩:=h1;exact ⟨_,_,rfl⟩
   have hs4:T.size=4:=by rw [HTS.out,hxy]; rfl
   have HEU:=zY (escP_u HTX.out HEN.out H1.out hxy);have h2s:2<T.size:=by omega
   have h3s:3<T.size:=by omega
   have hg2:T[2]'h2s=x:=by
    have h1:T.data.toList[2]?=some x:=by rw [← HTT.out,hxy]; rfl
    have h0:2<T.data.toList.length:=by show 2<T.size; omega
    rw [List.getElem?_eq_getElem h0] at h1
    injection h1
   have hg3:T[3]'h3s=y:=by
    have h1:T.data.toList[3]?=some y:=by rw [← HTT.out,hxy]; rfl
    have h0:3<T.data.toList.length:=by show 3<T.size; omega
    rw [List.getElem?_eq_getElem h0] at h1
    injection h1
   obtain ⟨zx,hzx⟩:∃ zx:Int,(((T[2]'h2s).toNat:Nat):Int)=zx:=⟨_,rfl⟩;obtain ⟨zy,hzy⟩:∃ zy:Int,(((T[3]'h3s).toNat:Nat):Int)=zy:=⟨_,rfl⟩;obtain ⟨lx,hlx⟩:∃ lx:Int,lx=(((low x).toNat:Nat):Int):=⟨_,rfl⟩;obtain ⟨ly,hly⟩:∃ ly:Int,ly=(((low y).toNat:Nat):Int):=⟨_,rfl⟩;obtain ⟨ix,hix⟩:=eX (hexI x);obtain ⟨iy,hiy⟩:=eX (hexI y)
   have KX:=zY (fun (u:World)=>show Calls Tryz.prog 134 #[.int .u8 zx] u fun e w'=>e=.returned (.int .u8 lx)∧w'=u by
    have h:=CL.out x u;unfold byteV at h;rw [← hzx,hg2,hlx]; exact h)
   have KY:=zY (fun (u:World)=>show Calls Tryz.prog 134 #[.int .u8 zy] u fun e w'=>e=.returned (.int .u8 ly)∧w'=u by
    have h:=CL.out y u;unfold byteV at h;rw [← hzy,hg3,hly]; exact h)
   have NX:=zY (fun (u:World)=>show Calls Tryz.prog 43 #[.string ⟨#[48,49,50,51,52,53,54,55,56,57,97,98,99,100,101,102]⟩,.int .u8 lx] u fun e w'=>e=.returned (.int .i64 ix)∧w'=u by
    have h:=CI.out lx u;have e:lx.toNat.toUInt8=low x:=by rw [hlx,Int.toNat_natCast]; simp
    rw [e] at h;rw [hix]; exact h)
   have NY:=zY (fun (u:World)=>show Calls Tryz.prog 43 #[.string ⟨#[48,49,50,51,52,53,54,55,56,57,97,98,99,100,101,102]⟩,.int .u8 ly] u fun e w'=>e=.returned (.int .i64 iy)∧w'=u by
    have h:=CI.out ly u;have e:ly.toNat.toUInt8=low y:=by rw [hly,Int.toNat_natCast]; simp
    rw [e] at h;rw [hiy]; exact h)
   have HXR:=zY (show -1≤ix∧ix≤15 by rw [hix]; exact qci x);have HYR:=zY (show -1≤iy∧iy≤15 by rw [hiy]; exact qci y);have HIX:=zY hix;have HIY:=zY hiy;have ht3:(3:Int)<(T.size:Int):=by omega
   have ht22:(2:Int)<(T.size:Int):=by omega
   clear hs4 hg2 hg3 hlx hly hix hiy hxy;go_wp2_with fail;refine qaa (KX.out _) ?_;rintro e w6 ⟨rfl,rfl⟩;go_wp2_with fail;refine qaa (NX.out _) ?_;rintro e w6 ⟨rfl,rfl⟩;go_wp2_with fail;refine qaa (KY.out _) ?_;rintro e w6 ⟨rfl,rfl⟩;go_wp2_with fail;refine qaa (NY.out _) ?_;rintro e w6 ⟨rfl,rfl⟩;obtain ⟨hx1,hx2⟩:=HXR.out;obtain ⟨hy1,hy2⟩:=HYR.out
   cases hbx:hexBad ix iy with
   | true =>
    have HN:=zY (show escP X=none by rw [HEU.out,hexP_no x y (by rw [← HIX.out,← HIY.out]; exact hbx)])
    have hor:ix<0∨(¬ ix<0∧iy<0)∨(¬ ix<0∧¬ iy<0∧126<16*ix+iy):=by
     simp only [hexBad,Bool.or_eq_true,decide_eq_true_eq] at hbx;omega
    clear hbx
    rcases hor with h1 | ⟨h1,h2⟩ | ⟨h1,h2,h3⟩
    ·skip
     go_wp2_with fail;refine qaa (CF.out _ _ HRD5.out) ?_;rintro y w6 ⟨rfl,hrd,hrg⟩;have HRD6:=zY (show RD w6 r s (b+4) d 13 from hrd);have HRG6:=zY (HRG5.out.trans hrg);clear hrd hrg;go_wp2_with fail;go_ret;rw [HN.out];refine ⟨rfl,b+4,by have:=HA.out; have:=HB.out; omega,fun x r' h=>?_,HRD6.out,HRG6.out⟩
     cases h
    ·skip
     go_wp2_with fail;refine qaa (CF.out _ _ HRD5.out) ?_;rintro y w6 ⟨rfl,hrd,hrg⟩;have HRD6:=zY (show RD w6 r s (b+4) d 13 from hrd);have HRG6:=zY (HRG5.out.trans hrg);clear hrd hrg;go_wp2_with fail;go_ret;rw [HN.out];refine ⟨rfl,b+4,by have:=HA.out; have:=HB.out; omega,fun x r' h=>?_,HRD6.out,HRG6.out⟩
     cases h
    ·skip
     go_wp2_with fail;refine qaa (CF.out _ _ HRD5.out) ?_;rintro y w6 ⟨rfl,hrd,hrg⟩;have HRD6:=zY (show RD w6 r s (b+4) d 13 from hrd);have HRG6:=zY (HRG5.out.trans hrg);clear hrd hrg;go_wp2_with fail;go_ret;rw [HN.out];refine ⟨rfl,b+4,by have:=HA.out; have:=HB.out; omega,fun x r' h=>?_,HRD6.out,HRG6.out⟩
     cases h
   | false =>
    obtain ⟨hp1,hp2,hp3,hp4⟩:=hexP_yes x y (by rw [← HIX.out,← HIY.out]; exact hbx);have HE:=zY (show escP X=some (UInt8.ofNat (16*ix+iy).toNat,X.drop 5) by rw [HEU.out,hp4,HIX.out,HIY.out]);rw [← HIX.out] at hp1 hp3;rw [← HIY.out] at hp2 hp3;have h1:¬ ix<0:=by omega
    have h2:¬ iy<0:=by omega
    have h3:¬ 126<16*ix+iy:=by omega
    clear hbx hp4
    have hle:a+5≤s.size:=by
     have h4:=H2.out;rw [HTX.out,List.length_take,List.length_tail,HX.out,List.length_drop] at h4;have h5:s.data.toList.length=s.size:=rfl;omega
    have HLE:=zY hle
    have hv:(16*ix+iy)=(((UInt8.ofNat (16*ix+iy).toNat).toNat:Nat):Int):=by
     rw [UInt8.toNat_ofNat'];omega
    have HV:=zY hv;clear hv hle;go_wp2_with fail;go_ret;rw [HE.out];refine ⟨?_,b+4,by have:=HLE.out; have:=HB.out; omega,fun c1 r' h=>?_,HRD5.out,HRG5.out⟩
    ·show Ending.returned (Value.int IntKind.u8 (16*ix+iy))=.returned (.int .u8 (((UInt8.ofNat (16*ix+iy).toNat).toNat:Nat):Int));rw [← HV.out]
    ·injection h with h
     injection h with h1 h2
     subst h2;have hb5:b+4=a+5:=by have:=HB.out; omega
     exact ⟨by omega,.inr (by have:=HLE.out; omega),by rw [hb5,HX.out,List.drop_drop]⟩
end Go.Proofs.YtlkikjeccamheaaGreatDoor.Js
namespace Go.Proofs.YtlkikjeccamheaaGreatDoor
set_option linter.unusedSimpArgs false
set_option linter.unusedVariables false
set_option maxRecDepth 100000
set_option maxHeartbeats 4000000
open Go.RowKit
structure BT (T:TypeId):Prop where
 lies:liesAt Tryz.prog Tryz.prog.depth T (2/Tryz.prog.cellsOf T) 0 66 1=true
 ne:T≠5
theorem bldT_size:(Tryz.prog.info? 66).map (·.size)=some 2:=by kernel_rfl
def SelfOk (p:Nat) (v:Value):Prop:=v=.pointer none∨v=.pointer (some ⟨p,0,none⟩)
theorem Blk.shape {w:World} {g:Nat} {t:TypeId} {cs:Array Value} (h:Blk w g t cs):w.shape? g=some (t,cs.size):=by
 unfold Blk at h;simp [World.shape?,h]
theorem Wrote.refl (g:Nat) (w:World):Wrote g w w:=⟨World.grownBy.refl _ _,rfl⟩
theorem qd1 {T:TypeId} (HT:BT T) (p:Nat) (self sl:Value) (w:World) (hb:Blk w p T #[self,sl]) (hs:SelfOk p self) :
  Calls Tryz.prog 93 #[.pointer (some ⟨p,0,none⟩)] w fun e w'=>e=.returned (.tuple #[])∧Blk w' p T #[.pointer (some ⟨p,0,none⟩),sl]∧Wrote p w w':=by
 obtain ⟨j,hj,hjs⟩:=Option.map_eq_some_iff.1 bldT_size;have t41:=Tryz.underlying64;have c0:w.cell? ⟨p,0,none⟩=some self:=hb.cell 0;have hsh:=hb.shape;have HB:=zY hb
 rcases hs with rfl | rfl
 ·clear hb;go_enter Tryz.func93,Tryz.ntmps93;go_wp2_with fail;rw [Lib.run_to_unsafe w ⟨p,0,none⟩ t41 Tryz.underlying154 hj (by rw [hjs]; decide) hsh (by simp)];simp only [Result.andThen];rw [Oper.upon_value];go_wp2;rw [run_callFunc_extern Tryz.func118 (by kernel_rfl) (by kernel_rfl) (by kernel_rfl) (e:=Extern.AbiNoEscape.same) (by kernel_rfl)];rw [Lib.run_noEscape];simp only [Result.andThen];rw [Oper.upon_value];go_wp2_with fail;rw [Lib.run_from_unsafe w ⟨p,0,none⟩ Tryz.underlying154 t41 hj hsh HT.lies];simp only [Result.andThen];rw [Oper.upon_value];go_wp2_with (refine qaf (x:=.tmp 13) (i:=0) HB.out rfl rfl rfl rfl (by kernel_rfl) (by simp) rfl ?_; intro w1 hb1 hw1)
  go_end0
  exact ⟨rfl,hb1,hw1⟩
 ·clear hb;go_enter Tryz.func93,Tryz.ntmps93;go_wp2;rw [Lib.run_neq_ptr_same w _ t41 hj];go_wp2
  go_end0
  exact ⟨rfl,HB.out,Wrote.refl _ _⟩
def IsB (w:World) (B:Nat) (T:TypeId) (p:Nat) (l:List UInt8):Prop :=
 B≤p∧∃ self A c,SelfOk p self∧Blk w p T #[self,.slice A l.length c]∧OwnX w B 5 1 (.slice A l.length c) l.length (bytesV l)
theorem IsB.lt {w:World} {B:Nat} {T:TypeId} {p:Nat} {l:List UInt8} (h:IsB w B T p l):B≤p∧p<w.heap.size:=by
 obtain ⟨h1,_,_,_,_,h2,_⟩:=h;exact ⟨h1,h2.lt⟩
theorem IsB.below {w w':World} {B:Nat} {T:TypeId} {p:Nat} {l:List UInt8} (h:IsB w B T p l) (hb:Below w.heap.size w w'):IsB w' B T p l:=by
 obtain ⟨h1,self,A,c,h2,h3,h4⟩:=h;exact ⟨h1,self,A,c,h2,h3.below hb h3.lt,h4.below hb (Nat.le_refl _)⟩
theorem IsB.new (w:World) (T:TypeId) {B:Nat} (hB:B≤w.heap.size):IsB (w.alloc (.cells #[.pointer none,.slice none 0 0] T)) B T w.heap.size [] :=
 ⟨hB,_,none,0,.inl rfl,Blk.new _ _ _,OwnX.nil _ _ _ _⟩
theorem sl_u8:SlT Tryz.prog 40 5 1 1:=SlT.mk1 (z:=.int .u8 0) Tryz.underlying40 (by kernel_rfl) rfl (by decide)
structure BK (B p:Nat) (w w':World):Prop where
 below:Below B w w'
 size:w.heap.size≤w'.heap.size
 keep:∀ (k:Nat) (cs:Array Value) (t:TypeId) (fz:Nat × Nat),k≠p→t≠5→w.heap[k]?=some (Obj.cells cs t fz)→w'.heap[k]?=some (Obj.cells cs t fz)
section
variable {B p:Nat} {w w1 w2 w':World}
theorem BK.refl (B p:Nat) (w:World):BK B p w w:=⟨Below.refl _ _,Nat.le_refl _,fun _ _ _ _ _ _ h=>h⟩
theorem BK.trans (h:BK B p w w1) (h':BK B p w1 w2):BK B p w w2:=⟨h.below.trans h'.below,Nat.le_trans h.size h'.size,fun k cs t fz h1 h2 h3=>h'.keep k cs t fz h1 h2 (h.keep k cs t fz h1 h2 h3)⟩
theorem BK.drew (h:BK B p w w1):BK B p w w1.drew:=⟨h.below.drew,h.size,h.keep⟩
theorem BK.wrote (h:Wrote p w w1) (hB:B≤p) (hs:B≤w.heap.size):BK B p w w1:=⟨h.below (Below.refl _ _) hB hs,by rw [h.size]; exact Nat.le_refl _,fun k cs t fz h1 _ h3=>(h.grown.block k (Array.getElem?_eq_some_iff.1 h3).1 (by simpa using h1)).trans h3⟩
theorem BK.own {e s n:Nat} {v:Value} {xs:List Value} (ho:OwnX w B 5 s v n xs) (hg:w.grownBy w1 v.ownBlock) (hs:B≤w.heap.size):BK B p w w1 :=
 ⟨(Below.refl B w).grown hg hs (fun k hk=>(ho.lt k hk).1),hg.size,fun k cs t fz _ h2 h3=>(qbr ho hg).2 k cs t fz h2 h3⟩
theorem BK.fresh {g:Nat} (hg:w.grownBy w1 (some g)) (hs:w.heap.size≤g) (hB:B≤w.heap.size):BK B p w w1 :=
 ⟨(Below.refl B w).grown hg hB (fun k hk=>by injection hk with hk; omega),hg.size,fun k cs t fz _ _ h3=>by
  have hlt:=(Array.getElem?_eq_some_iff.1 h3).1;exact (hg.block k hlt (by intro e; injection e with e; omega)).trans h3⟩
theorem BK.all (h:Below w.heap.size w w1) (hB:B≤w.heap.size):BK B p w w1:=⟨h.mono hB,h.size,fun k cs t fz _ _ h3=>(h.block k (Array.getElem?_eq_some_iff.1 h3).1).trans h3⟩
theorem BK.blk {g:Nat} {t:TypeId} {cs:Array Value} (h:BK B p w w1) (hb:Blk w g t cs) (hg:g≠p) (ht:t≠5):Blk w1 g t cs:=h.keep g cs t (0,0) hg ht hb
end
theorem isB_put {T:TypeId} {B p n m c2:Nat} {A2:Option Addr} {s v:Value} {xs:List Value} {l':List UInt8} {w w1 w2 w3:World} (hB:B≤p) (hp:p<w.heap.size) (hs:SelfOk p s) (hw1:Wrote p w w1) (ho1:OwnX w1 B 5 1 v m xs) (hg2:w1.grownBy w2 v.ownBlock) (HT:BT T)
  (hb2:Blk w2 p T #[s,v]) (ho2:OwnX w2 B 5 1 (.slice A2 n c2) n (bytesV l')) (hn:n=l'.length) (hb3:Blk w3 p T (#[s,v].setIfInBounds 1 (.slice A2 n c2))) (hw3:Wrote p w2 w3):IsB w3 B T p l'∧BK B p w w3:=by
 subst hn;refine ⟨⟨hB,s,A2,c2,hs,hb3,hw3.own ho2 (qax ho2 hb2 HT.ne)⟩,?_⟩;have h1:BK B p w w1:=.wrote hw1 hB (by omega);have h2:BK B p w1 w2:=.own (e:=0) ho1 hg2 (by have:=hw1.size; omega);have h3:BK B p w2 w3:=.wrote hw3 hB (by have:=h2.size; have:=h1.size; omega);exact (h1.trans h2).trans h3
theorem qcj {T:TypeId} (HT:BT T) (B p:Nat) (l:List UInt8) (x:UInt8) (w:World) (hb:IsB w B T p l) (hl:l.length+1≤140737488355328) :
  Calls Tryz.prog 57 #[.pointer (some ⟨p,0,none⟩),byteV x] w fun e w'=>e=.returned .nilIface∧IsB w' B T p (l++[x])∧BK B p w w':=by
 obtain ⟨hB,self,A,c,hs,hblk,hown⟩:=hb;have C:=zY (qd1 HT p self _ w hblk hs);have HO:=zY hown;have HK:=zY hblk;have hl':(l.length:Int)≤140737488355327:=by omega
 clear hblk hown;unfold byteV;go_enter Tryz.func57,Tryz.ntmps57;go_wp2_with fail;refine qaa C.out ?_;rintro e w1 ⟨rfl,hb1,hw1⟩;have hne:(Value.slice A l.length c).ownBlock≠some p:=qax HO.out HK.out HT.ne;have ho1:=hw1.own HO.out hne;have c1:w1.cell? ⟨p,1,none⟩=some (.slice A l.length c):=hb1.cell 1;have HW:=zY hw1;have HB1:=zY hb1;have HO1:=zY ho1;have hBw:B≤w1.heap.size:=by have:=HK.out.lt; have:=hw1.size; omega
 clear hw1 hb1 ho1
 go_wp2_with (first
  | (refine qak sl_u8 rfl rfl HO1.out rfl rfl rfl (by rfl) (by unfold maxLen; omega) (by omega) hBw ?_; intro A2 c2 w2 ho2 hg2 hn2; have hb2:=zY (HB1.out.grown hg2 (by intro h; exact hne h.symm)))
  | (refine qaf (x:=.tmp 16) (i:=1) hb2.out rfl rfl rfl rfl (by kernel_rfl) (by simp) rfl ?_; intro w3 hb3 hw3))
 go_ret;exact ⟨rfl,isB_put hB HK.out.lt (.inr rfl) HW.out HO1.out hg2 HT hb2.out (by rw [qaD]; exact ho2) (by simp) hb3 hw3⟩
theorem bld_str {T:TypeId} (HT:BT T) (B p:Nat) (l:List UInt8) (s:ByteArray) (w:World) (hb:IsB w B T p l) (hl:l.length+s.size≤140737488355328) :
  Calls Tryz.prog 66 #[.pointer (some ⟨p,0,none⟩),.string s] w fun e w'=>e=.returned (.tuple #[.int .i64 s.size,.nilIface])∧IsB w' B T p (l++s.data.toList)∧BK B p w w':=by
 obtain ⟨hB,self,A,c,hs,hblk,hown⟩:=hb;have C:=zY (qd1 HT p self _ w hblk hs);have HO:=zY hown;have HK:=zY hblk;have hl':(l.length:Int)+(s.size:Int)≤140737488355328:=by omega
 have zero_u8':∃ i,Tryz.prog.info? 5=some i∧i.zero=some (.int .u8 0):=by
  obtain ⟨i,h1,h2,_⟩:=info_parts (show (Tryz.prog.info? 5).map (fun i=>(i.zero,i.size,i.bytes))=some (some (.int .u8 0),1,1) by kernel_rfl);exact ⟨i,h1,h2⟩
 have HZ:=zY zero_u8';clear hblk hown zero_u8';go_enter Tryz.func66,Tryz.ntmps66;go_wp2_with fail;refine qaa C.out ?_;rintro e w1 ⟨rfl,hb1,hw1⟩;have hne:(Value.slice A l.length c).ownBlock≠some p:=qax HO.out HK.out HT.ne;have ho1:=hw1.own HO.out hne;have c1:w1.cell? ⟨p,1,none⟩=some (.slice A l.length c):=hb1.cell 1;have HW:=zY hw1;have HB1:=zY hb1;have HO1:=zY ho1;have hBw:B≤w1.heap.size:=by have:=HK.out.lt; have:=hw1.size; omega
 clear hw1 hb1 ho1
 go_wp2_with (first
  | (refine qcP sl_u8 HZ.out Tryz.underlying9 rfl rfl HO1.out rfl rfl (by omega) hBw ?_; intro A2 c2 w2 ho2 hg2 hn2; have hb2:=zY (HB1.out.grown hg2 (by intro h; exact hne h.symm)))
  | (refine qaf (x:=.tmp 16) (i:=1) hb2.out rfl rfl rfl rfl (by kernel_rfl) (by simp) rfl ?_; intro w3 hb3 hw3))
 go_ret2;exact ⟨rfl,isB_put hB HK.out.lt (.inr rfl) HW.out HO1.out hg2 HT hb2.out (by rw [qaD]; exact ho2) (by rw [List.length_append]; rfl) hb3 hw3⟩
theorem bld_write {T:TypeId} (HT:BT T) (B p B2 m cx:Nat) (Ad:Option Addr) (l s:List UInt8) (w:World) (hb:IsB w B T p l) (hr:Rd w B2 Ad (bytesV s)) (hpr:∀ ad,Ad=some ad→ad.block≠p) (hm:s.length=m) (hl:l.length+m≤140737488355328) :
  Calls Tryz.prog 97 #[.pointer (some ⟨p,0,none⟩),.slice Ad m cx] w fun e w'=>e=.returned (.tuple #[.int .i64 m,.nilIface])∧IsB w' B T p (l++s)∧BK B p w w':=by
 obtain ⟨hB,self,A,c,hs,hblk,hown⟩:=hb;have C:=zY (qd1 HT p self _ w hblk hs);have HO:=zY hown;have HK:=zY hblk;have HR:=zY hr;have hl':(l.length:Int)+(m:Int)≤140737488355328:=by omega
 clear hblk hown hr;go_enter Tryz.func97,Tryz.ntmps97;go_wp2_with fail;refine qaa C.out ?_;rintro e w1 ⟨rfl,hb1,hw1⟩;have hne:(Value.slice A l.length c).ownBlock≠some p:=qax HO.out HK.out HT.ne;have ho1:=hw1.own HO.out hne;have c1:w1.cell? ⟨p,1,none⟩=some (.slice A l.length c):=hb1.cell 1;have HW:=zY hw1;have HB1:=zY hb1;have HO1:=zY ho1;have hBw:B≤w1.heap.size:=by have:=HK.out.lt; have:=hw1.size; omega
 have HR1:=zY (show Rd w1 w1.heap.size Ad (bytesV s) from fun i u hu=>by
  obtain ⟨ad,h1,_,h3⟩:=HR.out i u hu;have hlt:=World.block_lt_of_cell? w _ h3;rw [qar] at hlt;refine ⟨ad,h1,by have:=hw1.size; omega,?_⟩;rw [← h3];exact World.cell?_of_block (w:=w) (w':=w1) (by rw [qar]; exact hw1.grown.block _ hlt (by simpa using hpr ad h1)))
 have H1:=zY (show ∀ u ∈ bytesV s,u.oneCell'=true from fun u hu=>by
  simp [bytesV,byteV] at hu;obtain ⟨x,_,rfl⟩:=hu
  rfl)
 clear hw1 hb1 ho1
 go_wp2_with (first
  | (refine qaI (cx:=cx) (m:=m) sl_u8 rfl rfl HO1.out rfl rfl (by rw [qan]; omega) HR1.out H1.out (by unfold maxLen; omega) (by omega) hBw ?_; intro A2 c2 w2 ho2 hg2 hn2; have hb2:=zY (HB1.out.grown hg2 (by intro h; exact hne h.symm)))
  | (refine qaf (x:=.tmp 16) (i:=1) hb2.out rfl rfl rfl rfl (by kernel_rfl) (by simp) rfl ?_; intro w3 hb3 hw3))
 go_ret2;exact ⟨rfl,isB_put hB HK.out.lt (.inr rfl) HW.out HO1.out hg2 HT hb2.out (by rw [qaD]; exact ho2) (by simp; omega) hb3 hw3⟩
theorem bld_len {T:TypeId} (B p:Nat) (l:List UInt8) (w:World) (hb:IsB w B T p l) :
  Calls Tryz.prog 36 #[.pointer (some ⟨p,0,none⟩)] w fun e w'=>e=.returned (.int .i64 l.length)∧w'=w:=by
 obtain ⟨hB,self,A,c,hs,hblk,hown⟩:=hb;have c1:w.cell? ⟨p,1,none⟩=some (.slice A l.length c):=hblk.cell 1;clear hblk hown;go_enter Tryz.func36,Tryz.ntmps36;go_wp2_with fail;go_ret;exact ⟨rfl,rfl⟩
theorem qcZ {T:TypeId} (B p:Nat) (l:List UInt8) (w:World) (hb:IsB w B T p l) (h0:l≠[]) :
  Calls Tryz.prog 37 #[.pointer (some ⟨p,0,none⟩)] w fun e w'=>e=.returned (.string ⟨l.toArray⟩)∧Below B w w':=by
 obtain ⟨hB,self,A,c,hs,hblk,hown⟩:=hb;have hl0:l.length≠0:=by simpa using h0
 obtain ⟨g,cur,fz,rfl,hbg,hg,hnc,hcm,hcs,htake⟩:∃ g cur fz,A=some ⟨g,0,none⟩∧B≤g∧w.heap[g]?=some (.cells cur 5 fz)∧l.length≤c∧c≤maxLen∧cur.size=c*1∧cur.toList.take (l.length*1)=bytesV l:=by
  rcases hown.2 with ⟨_,hz⟩ | ⟨g,cap,cur,fz,hv,h1,h2,h3,h4,h5,h6,_⟩
  ·exact absurd hz hl0
  ·injection hv with e1 e2 e3
   subst e3;exact ⟨g,cur,fz,e1,h1,h2,h3,h4,h5,h6⟩
 have c1:w.drew.cell? ⟨p,1,none⟩=some (.slice (some ⟨g,0,none⟩) l.length c):=hblk.cell 1
 have hSD:(Builtin.unsafeSliceData_ #[40] 111 #[.slice (some ⟨g,0,none⟩) l.length c]).run Tryz.prog w.drew=.ok (.pointer (some ⟨g,0,none⟩)) w.drew :=
  Lib.run_unsafeSliceData_row _ _ _ _ _ _ (by omega)
 have hUS:(Builtin.unsafeString_ #[111,3] 9 #[.pointer (some ⟨g,0,none⟩),.int .i64 l.length]).run Tryz.prog w.drew=.ok (.string ⟨l.toArray⟩) (w.drew.freeze ⟨g,0,none⟩ l.length):=by
  refine Lib.run_unsafeString_row w.drew 111 3 9 5 Tryz.underlying111 (by kernel_rfl) g cur.size (by have hg':w.drew.heap[g]?=some (.cells cur 5 fz):=hg; simp [World.shape?,hg']) l h0 (by omega) (by unfold maxLen at hcm; omega) ?_;intro j x hx;exact hown.cells (g:=g) rfl j (.int .u8 x.toNat) (by simp [bytesV,byteV,hx])
 have hbel:Below B w (w.drew.freeze ⟨g,0,none⟩ l.length):=Lib.below_freeze (Below.drew (Below.refl B w)) (p:=⟨g,0,none⟩) hbg _;have mixed:Tryz.prog.follows .mixedOrders=true:=by kernel_rfl
 clear hg hown hblk;go_enter Tryz.func37,Tryz.ntmps37;go_wp2
 go_region_o
 all_goals (go_wp2; go_ret; exact ⟨rfl,hbel⟩)
section
variable {P:Program}
theorem qbJ {w:World} {B:Nat} {src dst e:TypeId} (hs:P.underlying src=some (.slice e)) (he:P.underlying e=some (.int .u8)) (hd:P.underlying dst=some .string)
  {A:Option Addr} {l:List UInt8} (hr:Rd w B A (bytesV l)) (c:Nat):(convert src dst (.slice A l.length c)).run P w=.ok (.string ⟨l.toArray⟩) w:=by
 cases A with
 | none =>
  have hl:l=[]:=by
   cases l with
   | nil=>rfl
   | cons x r =>
    obtain ⟨ad,h,_⟩:=hr 0 (byteV x) (by simp [bytesV])
    cases h
  subst hl;rw [run_convert_bytes_nil w src e hs he _ c dst hd];rfl
 | some ad =>
  have hl:(loadCells ad l.length).run P w=.ok ((l.map fun b=>(b.toNat:Int)).map (Value.int .u8)).toArray w:=by
   have:=run_loadCells_list (P:=P) w ad ((l.map fun b=>(b.toNat:Int)).map (Value.int .u8)) (fun j v hj=>by
    obtain ⟨ad',h,_,hc⟩:=hr j v (by rw [← hj]; simp [bytesV,byteV]; rfl)
    injection h with h
    subst h;exact hc)
   simpa using this
  rw [run_convert_bytes_string w src dst e _ l.length c hs he hd,run_bytesToString w _ l.length c (l.map fun b=>(b.toNat:Int)) hl,foldl_push_bytes]
  have e1:((l.map fun b=>(b.toNat:Int)).map fun n=>UInt8.ofNat n.toNat)=l:=by
   rw [List.map_map]
   conv=>rhs; rw [← List.map_id l]
   exact List.map_congr_left fun b _=>by simp
  rw [e1];simp [ByteArray.empty,ByteArray.emptyWithCapacity];rfl
theorem qbt {w:World} {ops:Array Oper} {rest:List Oper} {o:Oper} {a:Act} {Q:Exit→Act→World→Prop} {B:Nat} {src dst e:TypeId} {x:Operand} {A:Option Addr} {l:List UInt8} {c:Nat}
  (hr:Rd w B A (bytesV l)) (hs:P.underlying src=some (.slice e)) (he:P.underlying e=some (.int .u8)) (hd:P.underlying dst=some .string)
  (hgd:o.guard=none) (ho:o.op=.convert src dst x) (hx:a.eval x=.slice A l.length c)
  (h:wpList P ops Q rest (a.put o.dst (.string ⟨l.toArray⟩)) w):wpList P ops Q (o :: rest) a w:=by
 refine wpList_plain hgd fun K hK=>?_;have hrun:=qbJ (P:=P) hs he hd hr c;unfold Oper.wp execOp;simp only [ho,hx];simp only [Sem.run_bind,hrun,Result.andThen_ok,Sem.run_pure];exact hK _ _ h
end
end Go.Proofs.YtlkikjeccamheaaGreatDoor
namespace Go.Proofs.YtlkikjeccamheaaGreatDoor.Js
set_option linter.unusedSimpArgs false
set_option linter.unusedVariables false
set_option maxRecDepth 100000
set_option maxHeartbeats 4000000
open Go.RowKit
def textS:Option (Bs × Bs)→Bs
 | none=>[]
 | some (t,_)=>t
def textE:Option (Bs × Bs)→Int
 | none=>13
 | some _=>0
theorem strA_bad {n:Nat} {acc rest:Bs} (h:look rest<32∨126<look rest):strA n acc rest=none:=by
 cases n with
 | zero=>rfl
 | succ n =>
  cases rest with
  | nil=>rfl
  | cons c r=>simp only [look] at h; rw [strA,if_pos h]
theorem strA_end {n:Nat} {acc r:Bs}:strA (n+1) acc (34 :: r)=some (acc,r):=by
 rw [strA,if_neg (by decide),if_pos rfl]
theorem strA_esc {n:Nat} {acc r:Bs}:strA (n+1) acc (92 :: r)=(match escP r with | some (b,r')=>strA n (acc++[b]) r' | none=>none):=by
 rw [strA,if_neg (by decide),if_neg (by decide),if_pos rfl]
 all_goals (rcases escP r with _ | ⟨b,r'⟩ <;> rfl)
theorem strA_one {n:Nat} {acc r:Bs} {c:UInt8} (h1:¬ (c<32∨126<c)) (h2:c≠34) (h3:c≠92):strA (n+1) acc (c :: r)=strA n (acc++[c]) r:=by
 rw [strA,if_neg h1,if_neg h2,if_neg h3]
def TxK (s:ByteArray) (X:Bs) (a:Nat) (acc:Bs) (a1:Nat) (e1:Int) (gk:Nat):Prop :=
 (e1=0∧a1≤s.size∧a<a1∧acc.length≤a1∧gk=s.size - a1+1∧∃ n,(s.data.toList.drop a1).length<n∧strA n acc (s.data.toList.drop a1)=textP X) ∨
 (e1=13∧textP X=none∧(a1:Int)≤(s.size:Int)+5∧gk=0)
theorem text_any (s:ByteArray) (hs:(s.size:Int)≤1000000) (r a:Nat) (d:Int) (w:World) (h:RD w r s a d 0) (ha:a≤s.size) :
  Calls Tryz.prog 103 #[.pointer (some ⟨r,0,none⟩)] w fun x w'=>x=.returned (.string (bs (textS (textP (s.data.toList.drop a)))))∧∃ a':Nat,(a':Int)≤(s.size:Int)+5 ∧
   (∀ t r',textP (s.data.toList.drop a)=some (t,r')→At s a a' r') ∧
   RD w' r s a' d (textE (textP (s.data.toList.drop a)))∧RG r w w':=by
 obtain ⟨X,hX⟩:=eX (s.data.toList.drop a);have HX:=zY hX;have HA:=zY ha;rw [← hX];have HRD0:=zY h;have HRL:=zY (show r<w.heap.size from Blk.lt h);have CK:=zY (fun (b:Nat) (e:Int) (u:World) (h:RD u r s b d e)=>qbQ s r b d e u h);have CF:=zY (fun (b:Nat) (e:Int) (u:World) (h:RD u r s b d e)=>qbn 13 s r b d e u h);have CE:=zY (fun (b:Nat) (u:World) (h:RD u r s b d 0) (hb:b≤s.size)=>escape_any s hs r b d u h hb);have ha':(a:Int)≤(s.size:Int):=by omega
 clear h hX ha;go_enter Tryz.func103,Tryz.ntmps103;go_wp2_with fail;refine qaa (CK.out a 0 _ HRD0.out) ?_;rintro y w1 ⟨rfl,hrd,hrg⟩;have HRD1:=zY hrd;have HRG1:=zY hrg;have HLK:=zY (show lookE s a 0=look X by rw [lookE,if_pos rfl,HX.out]);obtain ⟨c0,c1,-,-⟩:=hrd.cells;rw [HLK.out];clear hrd hrg;unfold byteV;obtain ⟨z,hz⟩:∃ z:Int,z=(((look X).toNat:Nat):Int):=⟨_,rfl⟩;rw [← hz]
 by_cases h34:look X=34
 case neg =>
  have hzn:(z == 34)=false:=by
   rw [hz,beq_eq_false_iff_ne];intro h;exact h34 (UInt8.toNat.inj (by show (look X).toNat=34; omega))
  have hzn2:(z != 34)=true:=by rw [bne,hzn]; rfl
  have HN:=zY (show textP X=none by rw [textP,if_neg h34]);clear hz h34;go_wp2_with fail;refine qaa (CF.out _ _ _ HRD1.out) ?_;rintro y w6 ⟨rfl,hrd,hrg⟩;have HRD6:=zY (show RD w6 r s a d 13 from hrd);have HRG6:=zY (HRG1.out.trans hrg);clear hrd hrg;go_wp2_with fail;go_ret;rw [HN.out];refine ⟨rfl,a,by have:=HA.out; omega,fun x r' h=>?_,HRD6.out,HRG6.out⟩
  cases h
 case pos =>
 have hz34:z=34:=by rw [hz,h34]; rfl
 have HLT:=zY (show a<s.size from qba (by rw [← HX.out,h34]; decide));have HXT:=zY (show textP X=strA X.length [] X.tail by rw [textP,if_pos h34]);subst hz34;clear hz h34;obtain ⟨b,hb⟩:=eX (a+1);have HB:=zY hb;have HBI:=zY (show (a:Int)+1=(b:Int) by omega);clear hb;go_wp2_with (refine qaf (x:=.tmp 16) (i:=1) HRD1.out rfl rfl rfl rfl (by kernel_rfl) (by simp [rdCells]) rfl ?_; intro w2 hb2 hw2)
 have HRD2:=zY (show RD w2 r s b d 0 from by
  show Blk w2 r _ #[.string s,.int .i64 ((b:Nat):Int),.int .i64 d,.int .i64 0];rw [← HBI.out];exact hb2)
 have HRG2:=zY (HRG1.out.trans (.wrote hw2));clear hb2 hw2 c0 c1
 go_loopg [3,4] (s.size - b+1) (fun gk x c wr=>∃ (acc:Bs) (A:Option Addr) (cp a1:Nat) (e1:Int),x=.slice A acc.length cp∧OwnX wr w.heap.size 5 1 (.slice A acc.length cp) acc.length (bytesV acc) ∧
  TxK s X a acc a1 e1 gk∧RD wr r s a1 d e1∧RG r w wr)
 case atStart =>
  refine ⟨[],none,0,b,0,rfl,OwnX.nil _ _ _ _,.inl ⟨rfl,by have:=HB.out; have:=HLT.out; omega,by have:=HB.out; omega,Nat.zero_le _,rfl,X.length,?_,?_⟩,HRD2.out,HRG2.out⟩
  ·rw [HB.out,HX.out,List.length_drop,List.length_drop];have h5:s.data.toList.length=s.size:=rfl;have:=HLT.out;omega
  ·rw [HB.out,qaK,← HX.out,HXT.out]
 case round =>
  obtain ⟨acc,A,cp,a1,e1,rfl,hown,hk,hrd,hrg⟩:=hrel;have HOWN3:=zY hown;have HRD3:=zY hrd;have HRG3:=zY hrg;clear hown hrd hrg
  rcases hk with ⟨rfl,h1,h2,h3,h4,n,hn1,hn2⟩ | ⟨rfl,hn,hle,hg0⟩
  case inr =>
   have HN:=zY hn;have HLE:=zY hle;clear hn hle hg0;go_wp2_with fail;refine qaa (CK.out a1 13 _ HRD3.out) ?_;rintro y w4 ⟨rfl,hrd,hrg⟩;have HRD4:=zY hrd;have HRG4:=zY (HRG3.out.trans hrg);clear hrd hrg;rw [show byteV (lookE s a1 13)=.int .u8 0 from rfl];go_wp2_with fail;refine qaa (CF.out _ _ _ HRD4.out) ?_;rintro y w6 ⟨rfl,hrd,hrg⟩;have HRD6:=zY (show RD w6 r s a1 d 13 from hrd);have HRG6:=zY (HRG4.out.trans hrg);clear hrd hrg;go_wp2_with fail;go_ret;rw [HN.out];refine ⟨rfl,a1,by have:=HLE.out; omega,fun x r' h=>?_,HRD6.out,HRG6.out⟩
   cases h
  case inl =>
   obtain ⟨rest,hrest⟩:=eX (s.data.toList.drop a1);rw [← hrest] at hn1 hn2;have HRE:=zY hrest;have HN1:=zY hn1;have HN2:=zY hn2;have HA1:=zY h1;have HA2:=zY h2;have HGK:=zY h4;have HLE:=zY (show (a1:Int)≤(s.size:Int)+5 by omega);have hacc:(acc.length:Int)≤1000000:=by omega
   have HACC:=zY h3;have ha1:(a1:Int)≤(s.size:Int):=by omega
   clear hrest hn1 hn2 h1 h2 h3 h4;go_wp2_with fail;refine qaa (CK.out a1 0 _ HRD3.out) ?_;rintro y w4 ⟨rfl,hrd,hrg⟩;have HRD4:=zY hrd;have HRG4:=zY (HRG3.out.trans hrg);have HOWN4:=zY (HOWN3.out.kept hrg (.inr (by intro h; have:=(HOWN3.out.lt r h).1; have:=HRL.out; omega)));have HLC:=zY (show lookE s a1 0=look rest by rw [lookE,if_pos rfl,HRE.out]);clear hrd hrg;rw [HLC.out];obtain ⟨c,hc⟩:=eX (look rest);rw [← hc];have HC:=zY hc;unfold byteV;obtain ⟨z,hz⟩:∃ z:Int,z=((c.toNat:Nat):Int):=⟨_,rfl⟩;rw [← hz];have HZ:=zY hz
   by_cases hbad:c<32∨126<c
   case pos =>
    have HN:=zY (show textP X=none by rw [← HN2.out]; exact strA_bad (by rw [← HC.out]; exact hbad))
    have hor:z<32∨(¬ z<32∧126<z):=by
     rw [UInt8.lt_iff_toNat_lt,UInt8.lt_iff_toNat_lt] at hbad;rw [show (32:UInt8).toNat=32 from rfl,show (126:UInt8).toNat=126 from rfl] at hbad;omega
    clear hbad hc hz
    rcases hor with h1 | ⟨h1,h2⟩
    ·skip
     go_wp2_with fail;refine qaa (CF.out _ _ _ HRD4.out) ?_;rintro y w6 ⟨rfl,hrd,hrg⟩;have HRD6:=zY (show RD w6 r s a1 d 13 from hrd);have HRG6:=zY (HRG4.out.trans hrg);clear hrd hrg;go_wp2_with fail;go_ret;rw [HN.out];refine ⟨rfl,a1,by have:=HLE.out; omega,fun x r' h=>?_,HRD6.out,HRG6.out⟩
     cases h
    ·skip
     go_wp2_with fail;refine qaa (CF.out _ _ _ HRD4.out) ?_;rintro y w6 ⟨rfl,hrd,hrg⟩;have HRD6:=zY (show RD w6 r s a1 d 13 from hrd);have HRG6:=zY (HRG4.out.trans hrg);clear hrd hrg;go_wp2_with fail;go_ret;rw [HN.out];refine ⟨rfl,a1,by have:=HLE.out; omega,fun x r' h=>?_,HRD6.out,HRG6.out⟩
     cases h
   case neg =>
   have hz2:¬ z<32∧¬ 126<z:=by
    rw [UInt8.lt_iff_toNat_lt,UInt8.lt_iff_toNat_lt] at hbad;rw [show (32:UInt8).toNat=32 from rfl,show (126:UInt8).toNat=126 from rfl] at hbad;omega
   obtain ⟨hz1,hz2⟩:=hz2;have HBAD:=zY hbad
   have HLT1:=zY (show a1<s.size from qba (by
    rw [← HRE.out,← HC.out];intro h0;rw [h0] at hbad;exact hbad (.inl (by decide))))
   obtain ⟨tl,htl⟩:=eX (rest.tail);have HTL:=zY htl
   have HRT:=zY (show rest=c :: tl by
    have h1:=HC.out;rw [htl]
    cases hr:rest with
    | nil =>
     exact absurd (.inl (by rw [h1,hr]; decide)) hbad
    | cons x l=>rw [h1,hr]; rfl)
   obtain ⟨m,hm⟩:∃ m,n=m+1:=⟨n - 1,by have:=HN1.out; omega⟩;have HM:=zY hm;obtain ⟨b1,hb1⟩:=eX (a1+1);have HB1:=zY hb1;have HBI1:=zY (show (a1:Int)+1=(b1:Int) by omega);have HDB:=zY (show s.data.toList.drop b1=tl by rw [hb1,qaK,← HRE.out,htl]);obtain ⟨c0,c1,-,-⟩:=HRD4.out.cells;clear hbad hc hz htl hm hb1
   by_cases h34:c=34
   ·have hz34:z=34:=by rw [HZ.out,h34]; rfl
    have HT:=zY (show textP X=some (acc,tl) by rw [← HN2.out,HRT.out,HM.out,h34,strA_end]);subst hz34;clear h34 hz1 hz2
    go_upto_region 12 with (refine qaf (x:=.tmp 37) (i:=1) HRD4.out rfl rfl rfl rfl (by kernel_rfl) (by simp [rdCells]) rfl ?_; intro w5 hb5 hw5)
    have HOWN5:=zY (HOWN4.out.kept hw5.grown (.inr (by intro h; have:=(HOWN4.out.lt r h).1; have:=HRL.out; omega)));have hrw:=Rd.of_own HOWN5.out (Nat.le_refl _);have hrun:=qbJ (P:=Tryz.prog) Tryz.underlying40 Tryz.underlying5 Tryz.underlying9 hrw cp
    have HRD5:=zY (show RD w5 r s b1 d 0 from by
     show Blk w5 r _ #[.string s,.int .i64 ((b1:Nat):Int),.int .i64 d,.int .i64 0];rw [← HBI1.out];exact hb5)
    have HRG5:=zY (HRG4.out.trans (.wrote hw5));clear hrw hb5 hw5 c0 c1;go_wp2_with fail;go_ret;rw [HT.out];refine ⟨rfl,b1,by have:=HB1.out; omega,fun x r' h=>?_,HRD5.out,HRG5.out⟩
    injection h with h
    injection h with h1 h2
    subst h2;exact ⟨by have:=HB1.out; have:=HA2.out; omega,.inr (by have:=HB1.out; have:=HLT1.out; omega),HDB.out⟩
   ·have hz34:(z == 34)=false:=by
     rw [HZ.out,beq_eq_false_iff_ne];intro h;exact h34 (UInt8.toNat.inj (by show c.toNat=34; omega))
    by_cases h92:c=92
    ·have hz92:z=92:=by rw [HZ.out,h92]; rfl
     have HS:=zY (show (match escP tl with | some (b,r')=>strA m (acc++[b]) r' | none=>none)=textP X by rw [← HN2.out,HRT.out,HM.out,h92,strA_esc]);subst hz92;clear h34 h92 hz1 hz2 hz34;go_wp2_with (refine qaf (x:=.tmp 46) (i:=1) HRD4.out rfl rfl rfl rfl (by kernel_rfl) (by simp [rdCells]) rfl ?_; intro w5 hb5 hw5)
     have HRD5:=zY (show RD w5 r s b1 d 0 from by
      show Blk w5 r _ #[.string s,.int .i64 ((b1:Nat):Int),.int .i64 d,.int .i64 0];rw [← HBI1.out];exact hb5)
     have HRG5:=zY (HRG4.out.trans (.wrote hw5));have HOWN5:=zY (HOWN4.out.kept hw5.grown (.inr (by intro h; have:=(HOWN4.out.lt r h).1; have:=HRL.out; omega)));clear hb5 hw5 c0 c1;refine qaa (CE.out b1 _ HRD5.out (by have:=HB1.out; have:=HLT1.out; omega)) ?_;rintro y w6 ⟨rfl,a2,ha2,hat,hrd,hrg⟩;have HRG6:=zY (HRG5.out.trans hrg);have HOWN6:=zY (HOWN5.out.kept hrg (.inr (by intro h; have:=(HOWN5.out.lt r h).1; have:=HRL.out; omega)));rw [HDB.out] at hat hrd ⊢;have HRD6:=zY hrd;have HAT:=zY hat;have HA22:=zY ha2;clear hrd hrg hat ha2;obtain ⟨cb,hcb⟩:=eX (escV (escP tl));rw [← hcb];have HCB:=zY hcb;clear hcb;unfold byteV;obtain ⟨zb,hzb⟩:∃ zb:Int,zb=((cb.toNat:Nat):Int):=⟨_,rfl⟩;rw [← hzb];have HZB:=zY hzb;clear hzb;go_wp2_with (refine qak sl_u8 rfl rfl HOWN6.out rfl rfl rfl rfl (by unfold maxLen; omega) (by omega) HRG6.out.size ?_; intro A2 cp2 w7 ho7 hg7 hn7)
     have HOWN7:=zY (show OwnX w7 w.heap.size 5 1 (.slice A2 (acc++[cb]).length cp2) (acc++[cb]).length (bytesV (acc++[cb])) by
      rw [qaD,List.length_append];rw [show bytesV [cb]=[Value.int .u8 zb] by rw [HZB.out]; rfl];exact ho7)
     have HRD7:=zY (show RD w7 r s a2 d (escE (escP tl)) from (hg7.block r (Blk.lt HRD6.out) (by intro h; have:=(HOWN6.out.lt r h.symm).1; have:=HRL.out; omega)).trans HRD6.out);have HRG7:=zY (HRG6.out.andThen hg7 (fun j hj=>.inl (HOWN6.out.lt j hj).1));clear ho7 hg7 hn7;go_wp2_with fail
     cases hes:escP tl with
     | none =>
      have HN:=zY (show textP X=none by rw [← HS.out,hes]);have HR8:=zY (show RD w7 r s a2 d 13 by have h:=HRD7.out; rw [hes] at h; exact h);clear hes
      go_roundg 0
      case measure=>have:=HGK.out; omega
      case rel=>exact ⟨acc++[cb],A2,cp2,a2,13,by rw [List.length_append]; rfl,HOWN7.out,.inr ⟨rfl,HN.out,HA22.out,rfl⟩,HR8.out,HRG7.out⟩
     | some p =>
      obtain ⟨pb,pr⟩:=p;have HAT2:=zY (HAT.out pb pr hes);have HSS:=zY (show strA m (acc++[cb]) pr=textP X by rw [← HS.out,HCB.out,hes]; rfl);have HLN:=zY (qdh hes);have HR8:=zY (show RD w7 r s a2 d 0 by have h:=HRD7.out; rw [hes] at h; exact h);clear hes
      go_roundg (s.size - a2+1)
      case measure=>have:=HGK.out; have:=HAT2.out.le; have:=HAT2.out.top; have:=HB1.out; have:=HLT1.out; omega
      case rel =>
       have hl:=HAT2.out.le;have ht:=HAT2.out.top;have hb:=HB1.out;have hlt:=HLT1.out;refine ⟨acc++[cb],A2,cp2,a2,0,by rw [List.length_append]; rfl,HOWN7.out,.inl ⟨rfl,by omega,by have:=HA2.out; omega,?_,rfl,m,?_,?_⟩,HR8.out,HRG7.out⟩
       ·rw [List.length_append];have:=HACC.out;simp;omega
       ·rw [HAT2.out.rest];have h1:=HN1.out;have h2:=HLN.out;rw [HRT.out,HM.out] at h1;simp at h1;omega
       ·rw [HAT2.out.rest,HSS.out]
    ·have hz92:(z == 92)=false:=by
      rw [HZ.out,beq_eq_false_iff_ne];intro h;exact h92 (UInt8.toNat.inj (by show c.toNat=92; omega))
     have HSS:=zY (show strA m (acc++[c]) tl=textP X by rw [← HN2.out,HRT.out,HM.out,strA_one HBAD.out h34 h92]);clear h34 h92
     go_wp2_with (first
      | (refine qaf (x:=.tmp 46) (i:=1) HRD4.out rfl rfl rfl rfl (by kernel_rfl) (by simp [rdCells]) rfl ?_; intro w5 hb5 hw5; have HOWN5:=zY (HOWN4.out.kept hw5.grown (.inr (by intro h; have:=(HOWN4.out.lt r h).1; have:=HRL.out; omega))); have HRG5:=zY (HRG4.out.trans (.wrote hw5)))
      | (refine qak sl_u8 rfl rfl HOWN5.out rfl rfl rfl rfl (by unfold maxLen; omega) (by omega) HRG5.out.size ?_; intro A2 cp2 w7 ho7 hg7 hn7))
     have HRD5:=zY (show RD w5 r s b1 d 0 from by
      show Blk w5 r _ #[.string s,.int .i64 ((b1:Nat):Int),.int .i64 d,.int .i64 0];rw [← HBI1.out];exact hb5)
     have HOWN7:=zY (show OwnX w7 w.heap.size 5 1 (.slice A2 (acc++[c]).length cp2) (acc++[c]).length (bytesV (acc++[c])) by
      rw [qaD,List.length_append];rw [show bytesV [c]=[Value.int .u8 z] by rw [HZ.out]; rfl];exact ho7)
     have HRD7:=zY (show RD w7 r s b1 d 0 from (hg7.block r (Blk.lt HRD5.out) (by intro h; have:=(HOWN5.out.lt r h.symm).1; have:=HRL.out; omega)).trans HRD5.out);have HRG7:=zY (HRG5.out.andThen hg7 (fun j hj=>.inl (HOWN5.out.lt j hj).1));clear ho7 hg7 hn7;go_wp2_with fail
     go_roundg (s.size - b1+1)
     case measure=>have:=HGK.out; have:=HB1.out; have:=HLT1.out; omega
     case rel =>
      have hb:=HB1.out;have hlt:=HLT1.out;refine ⟨acc++[c],A2,cp2,b1,0,by rw [List.length_append]; rfl,HOWN7.out,.inl ⟨rfl,by omega,by have:=HA2.out; omega,?_,rfl,m,?_,?_⟩,HRD7.out,HRG7.out⟩
      ·rw [List.length_append];have:=HACC.out;simp;omega
      ·rw [HDB.out];have h1:=HN1.out;rw [HRT.out,HM.out] at h1;simp at h1;omega
      ·rw [HDB.out,HSS.out]
end Go.Proofs.YtlkikjeccamheaaGreatDoor.Js
namespace Go.Proofs.YtlkikjeccamheaaGreatDoor
set_option linter.unusedSimpArgs false
set_option linter.unusedVariables false
set_option maxRecDepth 100000
set_option maxHeartbeats 4000000
open Go.RowKit
variable {P:Program}
def SeqL (P:Program) (ops:Array Oper) (C:World→Prop) (pu:Nat→Bool) (K:Act→Prop):Nat→List Oper→Act→Prop
 | _,[],a=>K a
 | i,o :: r,a=>∃ v,(∀ w,(pu i=false→C w)→∀ E:Act→World→Prop,(∀ w',(if pu i=true then w'=w else C w')→E (a.put o.dst v) w')→wpList P ops (EndOf E) [o] a w)∧SeqL P ops C pu K (i+1) r (a.put o.dst v)
def SeqT (P:Program) (ops:Array Oper) (K:Act→World→Prop):List Oper→Act→World→Prop
 | [],a,w=>K a w
 | o :: r,a,w=>∀ E:Act→World→Prop,(∀ v w',SeqT P ops K r (a.put o.dst v) w'→E (a.put o.dst v) w')→wpList P ops (EndOf E) [o] a w
theorem put_like {A1 A2:Act} {d:Option Tmp} {v v':Value} (hs:A1.tmps.size=A2.tmps.size) (h:A2.put d v=A2.put d v'):A1.put d v=A1.put d v':=by
 cases d with
 | none=>rfl
 | some d =>
  by_cases hd:d<A2.tmps.size
  ·have h1:=congrArg (fun a:Act=>a.tmps[d]?) h;simp only [put_at _ _ _ hd] at h1;rw [Option.some.inj h1]
  ·have h2:¬ d<A1.tmps.size:=by rw [hs]; exact hd
   simp only [Act.put,Array.setIfInBounds,h2,dif_neg,not_false_eq_true]
theorem seq_move {ops:Array Oper} {o:Oper} {A1 A2:Act} {w:World} {R:Value→World→Prop} {E1:Act→World→Prop} (hsel:∀ cs b,o.op≠.select cs b)
  (hs:A1.tmps.size=A2.tmps.size) (hlook:∀ t ∈ o.looksAt ops,A1.tmps[t]?=A2.tmps[t]?)
  (h:wpList P ops (EndOf fun a' w'=>∃ v,a'=A2.put o.dst v∧R v w') [o] A2 w) (hE:∀ v w',R v w'→E1 (A1.put o.dst v) w'):wpList P ops (EndOf E1) [o] A1 w:=by
 have heval:∀ x ∈ o.op.operands,A1.eval x=A2.eval x:=by
  intro x hx
  cases x with
  | tmp t =>
   have:=hlook t (List.mem_append_left _ (List.mem_filterMap.2 ⟨.tmp t,by simpa using hx,rfl⟩));simp only [Act.eval,Array.getD_eq_getD_getElem?,this]
  | _=>rfl
 have hexec:execOp A1.eval o=execOp A2.eval o:=execOp_congr o hsel heval
 have hwant:Region.wanted o (yielded ops A1.tmps)=Region.wanted o (yielded ops A2.tmps):=by
  unfold Region.wanted
  cases hg:o.guard with
  | none=>rfl
  | some gw =>
   obtain ⟨g,want⟩:=gw
   have:yielded ops A1.tmps g=yielded ops A2.tmps g:=by
    unfold yielded
    cases ht:(ops[g]?).bind (·.dst) with
    | none=>rfl
    | some t =>
     have:=hlook t (by
      refine List.mem_append_right _ ?_;simp [hg,ht])
     simp only [Option.bind_some,this]
   simp only [this]
 have hend:∀ (v:Value) (w':World),(∃ v',A2.put o.dst v=A2.put o.dst v'∧R v' w')→E1 (A1.put o.dst v) w':=by
  rintro v w' ⟨v',h1,h2⟩;rw [put_like hs h1];exact hE v' w' h2
 simp only [wpList] at h ⊢;rw [hwant]
 split
 ·rename_i hwt
  rw [if_pos hwt] at h
  rcases h with h | ⟨_,a₀,w₀,hq⟩
  case inr=>exact absurd hq.1 (by simp)
  refine .inl ?_;unfold Oper.wp at *;rw [hexec];generalize (execOp A2.eval o).run P w=r at *
  cases r with
  | ok n w' =>
   cases n <;> simp only [Oper.upon] at h ⊢
   case value v=>exact ⟨rfl,hend v w' h.2⟩
   case skip=>exact ⟨rfl,hend _ w' h.2⟩
   case defer d =>
    obtain ⟨_,v,hv,_⟩:=h;have:=congrArg Act.defers hv;rw [qbu,qbu] at this;exact absurd this (by simp)
   case enter f args =>
    refine Calls.mono h fun e w'' he=>?_
    cases e with
    | returned v=>exact ⟨rfl,hend v w'' he.2⟩
    | panicked c=>exact absurd he.1 (by simp)
    | outgrown=>obtain ⟨_,_,hq⟩:=he; exact absurd hq.1 (by simp)
   case row row args=>exact Rows.mono h fun v w'' he=>⟨rfl,hend v w'' he.2⟩
  | halt x w' =>
   cases x <;> simp only [Oper.upon] at h ⊢
   exact absurd h.1 (by simp)
 ·rename_i hwt
  rw [if_neg hwt] at h;exact ⟨rfl,hend _ _ h.2⟩
theorem qcr (ops:Array Oper) (vals:Nat→Value) (i:Nat):∀ (l:List Nat) (a:Act),putAll ops vals (l++[i]) a=(putAll ops vals l a).put (dstAt ops i) (vals i)
 | [],a=>rfl
 | j :: r,a=>qcr ops vals i r _
theorem qcn {ops:Array Oper} (hok:regionOk ops=true):∀ i j d,i≠j→dstAt ops i=some d→dstAt ops j≠some d:=fun i j d hij hd=>by
 have hil:=qdX hd;exact (okAt hok (Array.getElem?_eq_getElem hil)).dist j (Ne.symm hij) d hd
theorem seq_look {ops:Array Oper} (hok:regionOk ops=true) {i:Nat} {o:Oper} (ho:ops[i]?=some o) (vals:Nat→Value) (a0:Act) :
  ∀ t ∈ o.looksAt ops,(putAll ops vals (waitsOf ops i) a0).tmps[t]?=(putAll ops vals (List.range i) a0).tmps[t]?:=by
 intro t ht;have hdist:=qcn hok;obtain ⟨p1,p2,p3,p4⟩:=qaV hdist vals (waitsOf ops i) a0;obtain ⟨q1,q2,q3,q4⟩:=qaV hdist vals (List.range i) a0;have ok:=okAt hok ho
 by_cases hex:∃ j,dstAt ops j=some t
 ·obtain ⟨j,hj⟩:=hex
  rcases ok.look t ht j hj with hji | hij
  ·have hlt:=ok.before j hji
   by_cases hts:t<a0.tmps.size
   ·rw [p3 j hji t hj hts,q3 j (List.mem_range.2 hlt) t hj hts]
   ·rw [Array.getElem?_eq_none (by rw [p1]; exact Nat.le_of_not_lt hts),Array.getElem?_eq_none (by rw [q1]; exact Nat.le_of_not_lt hts)]
  ·have hjl:=qdX hj;have hlt:i<j:=(okAt hok (Array.getElem?_eq_getElem hjl)).before i hij
   have no:∀ k,k<i→dstAt ops k≠some t:=fun k hk e=>by
    by_cases hkj:k=j
    ·omega
    ·exact hdist j k t (fun e=>hkj e.symm) hj e
   rw [p4 t fun k hk=>no k (ok.before k hk),q4 t fun k hk=>no k (List.mem_range.1 hk)]
 ·have hno:∀ j,dstAt ops j≠some t:=fun j e=>hex ⟨j,e⟩;rw [p4 t fun k _=>hno k,q4 t fun k _=>hno k]
theorem seq_detQ {ops:Array Oper} {C:World→Prop} {pu:Nat→Bool} {a0:Act} {K:((Nat→Value)→Prop)→Prop} {Ks:Act→Prop} (hok:regionOk ops=true) :
  ∀ (rest:List Oper) (i:Nat) (Φ:(Nat→Value)→Prop) (a:Act),(∀ j o,rest[j]?=some o→ops[i+j]?=some o)→(∀ vals,Φ vals→putAll ops vals (List.range i) a0=a) →
   (∀ (a:Act) (Ψ:(Nat→Value)→Prop),(∀ vals,Ψ vals→putAll ops vals (List.range (i+rest.length)) a0=a)→Ks a→K Ψ)→SeqL P ops C pu Ks i rest a→DetQ P ops C pu a0 K i rest Φ
 | [],i,Φ,a,_,hΦ,hK,h=>hK a Φ hΦ h
 | o :: r,i,Φ,a,hat,hΦ,hK,⟨v,h1,h2⟩=>by
  have ho:ops[i]?=some o:=by simpa using hat 0 o rfl
  have hdo:dstAt ops i=o.dst:=by simp [dstAt,ho]
  have ok:=okAt hok ho;refine ⟨v,?_,?_⟩
  ·intro vals hv w hc E hE;have ha:=hΦ vals hv;have h3:=h1 w hc (fun a' w'=>∃ v',a'=a.put o.dst v'∧(v'=v∧(if pu i=true then w'=w else C w'))) fun w' hw'=>⟨v,rfl,rfl,hw'⟩;have hdist:=qcn hok;refine seq_move (A2:=a) (R:=fun v' w'=>v'=v∧(if pu i=true then w'=w else C w')) ok.sel ?_ ?_ h3 ?_
   ·rw [← ha,(qaV hdist vals (waitsOf ops i) a0).1,(qaV hdist vals (List.range i) a0).1]
   ·rw [← ha];exact seq_look hok ho vals a0
   ·rintro v' w' ⟨rfl,hw'⟩;exact hE w' hw'
  ·refine seq_detQ hok r (i+1) _ (a.put o.dst v) (fun j o' hj=>by rw [show i+1+j=i+(j+1) by omega]; exact hat (j+1) o' (by simpa using hj)) ?_ ?_ h2
   ·rintro vals ⟨hv,hvi⟩;rw [List.range_succ,qcr,hΦ vals hv,hdo,hvi]
   ·intro a' Ψ hΨ hk;refine hK a' Ψ (fun vals hv=>?_) hk;rw [← hΨ vals hv]
    congr 2
    simp only [List.length_cons];omega
theorem qcs (ops:Array Oper) (vals:Nat→Value):∀ (l:List Nat) (a:Act),putAll ops vals l a=puts vals (l.map fun j=>(j,dstAt ops j)) a
 | [],_=>rfl
 | j :: r,a=>qcs ops vals r _
theorem seq_tail {ops:Array Oper} {a0:Act} {Kq:Act→World→Prop} {n:Nat} (hok:regionOk ops=true):∀ (rest:List Oper) (i:Nat) (vals:Nat→Value) (a:Act) (w:World),(∀ j o,rest[j]?=some o→ops[i+j]?=some o)→i+rest.length=n →
  putAll ops vals (List.range i) a0=a→SeqT P ops Kq rest a w→tailP P ops a0 (fun vals w=>Kq (putAll ops vals (List.range n) a0) w) i rest vals w
 | [],i,vals,a,w,_,hn,ha,h=>by
  have hn':i=n:=by simpa using hn
  show Kq (putAll ops vals (List.range n) a0) w;rw [← hn',ha];exact h
 | o :: r,i,vals,a,w,hat,hn,ha,h=>by
  have ho:ops[i]?=some o:=by simpa using hat 0 o rfl
  have hdo:dstAt ops i=o.dst:=by simp [dstAt,ho]
  have ok:=okAt hok ho;have hdist:=qcn hok;intro E hE;have h3:=h (fun a' w'=>∃ v,a'=a.put o.dst v∧SeqT P ops Kq r (a.put o.dst v) w') fun v w' hv=>⟨v,rfl,hv⟩;refine seq_move (A2:=a) (R:=fun v w'=>SeqT P ops Kq r (a.put o.dst v) w') ok.sel ?_ ?_ h3 ?_
  ·rw [← ha,(qaV hdist vals (waitsOf ops i) a0).1,(qaV hdist vals (List.range i) a0).1]
  ·rw [← ha];exact seq_look hok ho vals a0
  ·intro v w' hv;refine hE v w' ?_;refine seq_tail hok r (i+1) (upd vals i v) (a.put o.dst v) w' (fun j o' hj=>by rw [show i+1+j=i+(j+1) by omega]; exact hat (j+1) o' (by simpa using hj)) (by simp only [List.length_cons] at hn; omega) ?_ hv;rw [List.range_succ,qcr,hdo];rw [qaF ops (upd vals i v) vals (List.range i) a0 (fun j hj=>by have:=List.mem_range.1 hj; simp [upd,Nat.ne_of_lt this]),ha];simp [upd]
theorem qam {id:Nat} {l:List Oper} {a0:Act} {w0:World} {Q:Exit→Act→World→Prop} (C:World→Prop)
  (hm:P.follows .mixedOrders=true) (hok:regionOk l.toArray=true) (hC:C w0.drew)
  (h:SeqL P l.toArray C (fun _=>false) (fun a=>∀ w,C w→Q .normal a w) 0 l a0) :
  (Code.region id l.toArray true).wp P Q a0 w0:=by
 have hd:=seq_detQ (K:=fun Φ=>∀ vals,Φ vals→∀ w,C w→Q .normal (putAll l.toArray vals (List.range l.toArray.size) a0) w) hok l 0 (fun _=>True) a0 (by simp) (fun _ _=>rfl)
  (fun a Ψ hΨ hk vals hv w hc=>by
   have:=hΨ vals hv;rw [Nat.zero_add] at this;rw [show l.toArray.size=l.length by simp,this];exact hk w hc) h
 obtain ⟨vs,Ψ,k1,_,k3,k4⟩:=detQ_all (P:=P) l 0 (fun _=>True) (fun _ _ _ h=>h) ⟨fun _=>undef,trivial⟩ hd;refine qa1 C (fun _ _=>True) (fun _ _=>true) (fun i vals w=>vals i=vs i) (fun _ _ _=>True) (fun _ _=>false) hm hok hC (fun _=>trivial) ?_ ?_ ?_ ?_
 ·intro _ i hi
  cases hi
 ·intro i k hi hik _ hdk vals v w w' _ hF;show upd vals i v k=vs k;simp [upd,Ne.symm hik,hF]
 ·intro i o ho w vals hcw _ hav
  have hvals:∀ j ∈ waitsOf l.toArray i,vals j=vs j:=fun j hj=>by
   have h1:availAt l.toArray (fun _ _=>false) j i=true:=by
    unfold availAt;simp [hj]
   exact hav j h1
  have hcon:putAll l.toArray vals (waitsOf l.toArray i) a0=putAll l.toArray vs (waitsOf l.toArray i) a0:=qaF _ _ _ _ _ hvals;have h3:=k4 i o (by simpa using ho) vs w (fun _=>hcw) (fun _ _=>rfl);rw [Nat.zero_add] at h3;rw [hcon];refine h3 (fun a' w'=>∃ v,a'=(putAll l.toArray vs (waitsOf l.toArray i) a0).put o.dst v∧upd vals i v i=vs i∧C w'∧True) fun w' hd=>?_;exact ⟨vs i,rfl,by simp [upd],by simpa using hd,trivial⟩
 ·intro w vals hcw hF;have hal:∀ j,aliveAt l.toArray (fun _ _=>false) j=true:=fun j=>by simp [aliveAt]
  exact k1 vals (k3 vals fun j hj=>hF j (by simpa using hj) (hal _)) w hcw
theorem qcl {id:Nat} {l:List Oper} {a0:Act} {w0:World} {Q:Exit→Act→World→Prop} (C:World→Prop) (pu:Nat→Bool) (d:Nat)
  (hm:P.follows .mixedOrders=true) (hok:regionOk l.toArray=true) (hd:d<l.length)
  (hlast:((List.range l.length).all fun k=>decide (k<d) || (((List.range k).all fun i=>(deepWaits l.toArray 5 k).contains i || (pu i && decide (i<d))) && (k == d || (waitsOf l.toArray k).contains (k - 1))))=true)
  (hC:C w0.drew)
  (h:SeqL P l.toArray C pu (fun a=>∀ w,C w→SeqT P l.toArray (fun a w=>Q .normal a w) (l.drop d) a w) 0 (l.take d) a0) :
  (Code.region id l.toArray true).wp P Q a0 w0:=by
 refine qbV C pu d ((List.range l.toArray.size).map fun j=>(j,dstAt l.toArray j)) hm hok hd hlast (fun vals=>qcs _ _ _ _) hC ?_;have htl:(l.take d).length=d:=by rw [List.length_take]; omega
 refine seq_detQ hok (l.take d) 0 (fun _=>True) a0 (fun j o hj=>?_) (fun _ _=>rfl) (fun a Ψ hΨ hk vals hv w hc=>?_) h
 ·rw [List.getElem?_take] at hj
  split at hj
  ·simpa using hj
  ·cases hj
 ·have ha:=hΨ vals hv;rw [Nat.zero_add,htl] at ha
  have h9:=seq_tail (P:=P) (Kq:=fun a w=>Q .normal a w) (n:=l.length) hok (l.drop d) d vals a w (fun j o hj=>by
   rw [List.getElem?_drop] at hj
   simpa using hj) (by rw [List.length_drop]; omega) ha (hk w hc)
  have e:(fun (vals:Nat→Value) w=>Q .normal (puts vals ((List.range l.toArray.size).map fun j=>(j,dstAt l.toArray j)) a0) w)=fun vals w=>Q .normal (putAll l.toArray vals (List.range l.length) a0) w:=by
   funext vals w
   rw [← qcs];simp
  rw [e];exact h9
section
variable {ops:Array Oper} {C:World→Prop} {pu:Nat→Bool} {K:Act→Prop} {i:Nat} {o:Oper} {r:List Oper} {a a':Act} {v:Value}
theorem SeqL.nil (h:K a):SeqL P ops C pu K i [] a:=h
theorem SeqT.nil {K:Act→World→Prop} {w:World} (h:K a w):SeqT P ops K [] a w:=h
theorem SeqL.next (hp:pu i=false) (hg:o.guard=none) (ha:a.put o.dst v=a')
  (h:∀ w,C w→∀ E:Act→World→Prop,(∀ w',C w'→E a' w')→wpList P #[] (EndOf E) [o] a w)
  (hr:SeqL P ops C pu K (i+1) r a'):SeqL P ops C pu K i (o :: r) a:=by
 subst ha;refine ⟨v,fun w hc E hE=>?_,hr⟩;have h1:=h w (hc hp) E (fun w' hw'=>hE w' (by rw [hp]; simpa using hw'));have hw:∀ (O:Array Oper) (t:Array Value),Region.wanted o (yielded O t)=true:=fun O t=>by simp [Region.wanted,hg]
 simp only [wpList,hw,if_true] at h1 ⊢;exact h1
theorem SeqL.pure (hp:pu i=true) (hg:o.guard=none) (ha:a.put o.dst v=a')
  (h:∀ w,∀ E:Act→World→Prop,E a' w→wpList P #[] (EndOf E) [o] a w)
  (hr:SeqL P ops C pu K (i+1) r a'):SeqL P ops C pu K i (o :: r) a:=by
 subst ha;refine ⟨v,fun w hc E hE=>?_,hr⟩;have h1:=h w E (hE w (by rw [hp]; simp));have hw:∀ (O:Array Oper) (t:Array Value),Region.wanted o (yielded O t)=true:=fun O t=>by simp [Region.wanted,hg]
 simp only [wpList,hw,if_true] at h1 ⊢;exact h1
theorem SeqL.yes {g:Nat} {t:Tmp} {b:Bool} (hp:pu i=false) (hg:o.guard=some (g,b)) (hd:dstAt ops g=some t) (ht:a.tmps[t]?=some (.bool b)) (ha:a.put o.dst v=a')
  (h:∀ w,C w→∀ E:Act→World→Prop,(∀ w',C w'→E a' w')→wpList P #[] (EndOf E) [{ o with guard:=none }] a w)
  (hr:SeqL P ops C pu K (i+1) r a'):SeqL P ops C pu K i (o :: r) a:=by
 subst ha;refine ⟨v,fun w hc E hE=>?_,hr⟩;have h1:=h w (hc hp) E (fun w' hw'=>hE w' (by rw [hp]; simpa using hw'))
 have hw:Region.wanted o (yielded ops a.tmps)=true:=by
  unfold dstAt at hd;simp [Region.wanted,hg,yielded,hd,ht]
 have hw':∀ (O:Array Oper) (t:Array Value),Region.wanted { o with guard:=none } (yielded O t)=true:=fun O t=>by simp [Region.wanted]
 simp only [wpList,hw,hw',if_true] at h1 ⊢;have hk:∀ a w,Oper.asks P { o with guard:=none } a w=Oper.asks P o a w:=fun a w=>rfl;rw [hk] at h1;exact h1
theorem SeqL.no {g:Nat} {t:Tmp} {b:Bool} (hg:o.guard=some (g,b)) (hd:dstAt ops g=some t) (ht:a.tmps[t]?=some (.bool !b)) (ha:a.put o.dst undef=a')
  (hr:SeqL P ops C pu K (i+1) r a'):SeqL P ops C pu K i (o :: r) a:=by
 subst ha;refine ⟨undef,fun w hc E hE=>?_,hr⟩;have hd':(ops[g]?).bind (·.dst)=some t:=hd
 have hw:¬ Region.wanted o (yielded ops a.tmps)=true:=by
  simp [Region.wanted,hg,yielded,hd',ht]
 simp only [wpList,if_neg hw];refine ⟨rfl,hE w ?_⟩
 split
 ·rfl
 ·rename_i h
  exact hc (by simpa using h)
theorem SeqT.step {K:Act→World→Prop} {w:World} (hg:o.guard=none)
  (h:∀ E:Act→World→Prop,(∀ v w',SeqT P ops K r (a.put o.dst v) w'→E (a.put o.dst v) w')→wpList P #[] (EndOf E) [o] a w):SeqT P ops K (o :: r) a w:=by
 intro E hE;have h1:=h E hE;have hw:∀ (O:Array Oper) (t:Array Value),Region.wanted o (yielded O t)=true:=fun O t=>by simp [Region.wanted,hg]
 simp only [wpList,hw,if_true] at h1 ⊢;exact h1
end
end Go.Proofs.YtlkikjeccamheaaGreatDoor
