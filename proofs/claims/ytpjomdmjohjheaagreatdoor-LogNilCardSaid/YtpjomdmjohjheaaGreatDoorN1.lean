import Derived.WalkKit
import Derived.WalkSpells
import Derived.WalkLawsBesides
import Derived.Lib.Hide
import Derived.Deep.Draws
import Derived.BigQuiet
import Derived.Deep.AppendSrc
import Derived.Deep.RegionLawGrows
import Derived.DeepKeys
import Derived.DeepKeys4
import Derived.Maps.Keyed
import Derived.Maps.OwnSet
import Derived.Laws.Tables
import Derived.Maps.AppendAt
import Derived.OrdersHeld
import Derived.Deep.DrawnRows
import Derived.RangeFuncNested
import Derived.OrdersIn
import Derived.TacticsIn
import Derived.RangeFuncLeaves
import Derived.RangeFuncSeq
import Derived.Maps.RangeRun
import Derived.StringKeys
import Derived.Test.YtpjomdmjohjheaaGreatDoorProg
import Derived.Lib.ConvBytes
import Derived.Laws.Externs
import Derived.MapKept
import Derived.LaidEqlPtr
import Derived.Shelf.SlIter.Nil
import Derived.Shelf.SortM.Plain
import Derived.Shelf.SortM.SortNone
import Derived.Ground.GgzProg
import Derived.Ground.SlgmProg
import Derived.Maps.Range
import Derived.Sort.KeysCollected
import Derived.ChangeArms
import Derived.OpenShut
import Derived.DataReads
import Derived.ProofKit
import Derived.OwnWalkIn
import Derived.TacticsInMore
import Derived.LoopNIn
import Derived.LoopIn
import Derived.Shelf.Abstract
import Derived.Shelf.Small.Wraps
import Derived.Shelf.LaysM
import Derived.Shelf.LaysC
import Derived.Shelf.Strconv.Itoa3
import Derived.Shelf.Strconv.AtoiAll
import Derived.Shelf.Bytes.SlCountOne
import Derived.Shelf.Bytes.SlClone
import Derived.Shelf.Bytes.SlJoin
import Derived.Shelf.Slices.Turned
import Derived.Ground.SlbNamesProg
import Derived.Ground.SlbCloneProg
import Derived.Lib.EndianBits
import Derived.Lib.VarintBits
import Derived.Lib.ItoaMem
import Derived.Lib.AtoiAllCases
import Derived.Lib.Strings
import Derived.Sort.Grow
import Derived.Laws.Concat
import Derived.Lib.ItoaLen
import Derived.Test.YtpjomdmjohjheaaGreatDoorRows
import Derived.LaidLaws
import Derived.LaidMore
import Derived.LaidHandle
import Derived.StillTailTactics
import Derived.Sort.OwnSortedInts
import Derived.Laws.BytesArg
import Derived.Laws.IdiomStrings
import Derived.Deep.OwnRows
import Derived.Below
import Derived.ShutString
import Derived.ChangeOld
import Derived.SizedLaws
import Derived.Stop.Joined
import Derived.SevenTiedAt
set_option linter.unusedVariables false
set_option linter.unusedSimpArgs false
set_option maxRecDepth 100000
set_option maxHeartbeats 8000000
section
namespace Go.Lk
open Go.RowKit
structure Keeps (S:Nat -> Prop) (w w':World):Prop where
 os:w'.os=w.os
 tape:w'.tape=w.tape
 output:w'.output=w.output
 size:w.heap.size <= w'.heap.size
 block:∀ k,k < w.heap.size -> ¬ S k -> w'.heap[k]?=w.heap[k]?
def Nb:Nat -> Prop:=fun _=>False
variable {S S':Nat -> Prop} {a b c w w':World}
theorem Keeps.refl (S:Nat -> Prop) (w:World):Keeps S w w:=⟨rfl,rfl,rfl,Nat.le_refl _,fun _ _ _=>rfl⟩
theorem Keeps.trans (h:Keeps S a b) (k:Keeps S' b c) (hs:∀ i,i < a.heap.size -> S' i -> S i):Keeps S a c :=
 ⟨k.os.trans h.os,k.tape.trans h.tape,k.output.trans h.output,Nat.le_trans h.size k.size,fun i hi hn =>
  (k.block i (Nat.lt_of_lt_of_le hi h.size) (fun e=>hn (hs i hi e))).trans (h.block i hi hn)⟩
theorem Keeps.trans_nb (h:Keeps S a b) (k:Keeps Nb b c):Keeps S a c:=h.trans k (fun _ _ e=>e.elim)
theorem Keeps.own (h:Keeps S a b) {k:Nat} (hb:a.heap.size <= k) (hk:Keeps (·=k) b c):Keeps S a c:=h.trans hk (fun i hi e=>absurd hi (by omega))
theorem Keeps.mono (h:Keeps S a b) (hs:∀ i,i < a.heap.size -> S i -> S' i):Keeps S' a b :=
 ⟨h.os,h.tape,h.output,h.size,fun i hi hn=>h.block i hi (fun e=>hn (hs i hi e))⟩
theorem Keeps.of_nb (h:Keeps Nb a b):Keeps S a b:=h.mono fun _ _ e=>e.elim
theorem Keeps.drew (h:Keeps S a w):Keeps S a w.drew:=⟨h.os,h.tape,h.output,h.size,h.block⟩
theorem Keeps.drewN (h:Keeps S a w) (n:Nat):Keeps S a (w.drewN n):=⟨h.os,h.tape,h.output,h.size,h.block⟩
theorem Keeps.alloc (h:Keeps S a w) (o:Obj):Keeps S a (w.alloc o) :=
 h.trans_nb ⟨rfl,rfl,rfl,by simp,fun k hk _=>Below.heap_alloc _ _ _ hk⟩
theorem Keeps.setCell (h:Keeps S a w) {p:Addr} (hp:p.block < a.heap.size -> S p.block) (u:Value):Keeps S a (w.setCell p u) :=
 ⟨h.os,h.tape,h.output,by simpa [World.setCell] using h.size,fun k hk hn=>by
  rw [Below.heap_setCell _ _ _ _ (by rintro rfl;exact hn (hp hk))];exact h.block k hk hn⟩
theorem Keeps.grown (h:Keeps S a w) {row:Option Nat} (hg:w.grownBy w' row) (hr:∀ k,row=some k -> k < a.heap.size -> S k):Keeps S a w' :=
 ⟨hg.os.trans h.os,hg.tape.trans h.tape,hg.output.trans h.output,Nat.le_trans h.size hg.size,fun k hk hn=>by
  rw [hg.block k (Nat.lt_of_lt_of_le hk h.size) (fun e=>hn (hr k e.symm hk))];exact h.block k hk hn⟩
theorem Keeps.below (h:Keeps Nb w w'):Below w.heap.size w w' :=
 ⟨h.os,h.tape,h.output,h.size,fun k hk=>h.block k hk (fun e=>e)⟩
theorem z0x (h:Below w.heap.size w w'):Keeps S w w' :=
 ⟨h.os,h.tape,h.output,h.size,fun k hk _=>h.block k hk⟩
theorem Keeps.cell (h:Keeps S w w') {p:Addr} (hp:p.block < w.heap.size) (hn:¬ S p.block):w'.cell? p=w.cell? p :=
 World.cell?_of_block (w:=w) (h.block p.block hp hn)
structure Sub (w0:World) where
 wd:World
 k:Keeps Nb w0 wd
theorem z40 {P:Program} {id:Nat} {Q:Exit -> Act -> World -> Prop} {a:Act} {l:List Oper} (hm:P.follows .mixedOrders=true) (hB:Region.lexB .any l.toArray=true)
  (h:wpQuiet P l.toArray (fun w'=>∃ u:Sub w,w'=u.wd) (fun a'=>∀ w',(∃ u:Sub w,w'=u.wd) -> Q .normal a' w') l a):(Code.region id l.toArray true).wp P Q a w :=
 wp_region_quiet (C:=fun w'=>∃ u:Sub w,w'=u.wd) hm hB ⟨⟨_,(Keeps.refl Nb w).drewN 1⟩,rfl⟩ (by simpa using h)
theorem zd2 {P:Program} {f:FuncId} {args:Array Value} {u:Sub w} {v:Value}
  (h:Calls P f args u.wd fun e w'=>e=.returned v /\ Keeps Nb u.wd w'):Calls P f args u.wd fun e w''=>e=.returned v /\ ∃ u':Sub w,w''=u'.wd :=
 h.mono fun _ w'' ⟨he,hk⟩=>⟨he,⟨w'',u.k.trans_nb hk⟩,rfl⟩
theorem lt_of_cell {p:Addr} {v:Value} (h:w.cell? p=some v):p.block < w.heap.size:=by
 unfold World.cell? at h;rcases Nat.lt_or_ge p.block w.heap.size with g | g
 ·exact g
 ·rw [Array.getElem?_eq_none g] at h;cases h
theorem lt_of_block {k:Nat} {o:Obj} (h:w.heap[k]?=some o):k < w.heap.size:=by
 rcases Nat.lt_or_ge k w.heap.size with g | g
 ·exact g
 ·rw [Array.getElem?_eq_none g] at h;cases h
theorem cell_of_block {k i:Nat} {cs:Array Value} {T:TypeId} {f:Nat × Nat} (h:w.heap[k]?=some (.cells cs T f)):w.cell? ⟨k,i,none⟩=cs[i]?:=by
 simp [World.cell?,h]
theorem z48 {k i:Nat} {cs:Array Value} {T:TypeId} (h:w.heap[k]?=some (.cells cs T (0,0))):w.frozen? ⟨k,i,none⟩=false:=by
 simp [World.frozen?,h]
theorem block_setCell {k i:Nat} {cs:Array Value} {T:TypeId} {f:Nat × Nat} (h:w.heap[k]?=some (.cells cs T f)) (v:Value) :
  (w.setCell ⟨k,i,none⟩ v).heap[k]?=some (.cells (cs.setIfInBounds i v) T f):=by
 simp [World.setCell,Array.getElem?_modify,h]
theorem z2b (w:World) (o:Obj):(w.alloc o).heap[w.heap.size]?=some o:=by
 show (w.heap.push o)[w.heap.size]?=_;simp
theorem zgx {k:IntKind} {a b:Int} (h:a=b):Ending.returned (.int k a)=.returned (.int k b):=by rw [h]
theorem z5e {k:IntKind} {a b:Int} (h:a=b):Value.int k a=.int k b:=by rw [h]
def nth (l:List Int) (i:Nat):Int:=l.getD i 0
theorem zct {l:List Int} {i:Nat} (h:i < l.length):nth l i=l[i]:=by simp [nth,h]
def Reads (k:IntKind) (w:World) (a:Option Addr) (zs:List Int):Prop :=
 zs=[] \/ ∃ b off,a=some ⟨b,off,none⟩ /\ ∀ i,i < zs.length -> w.cell? ⟨b,off + i,none⟩=some (.int k (nth zs i))
theorem Reads.keeps {k:IntKind} {a:Option Addr} {zs:List Int} (h:Reads k w a zs) (hk:Keeps S w w') (hn:∀ b off,a=some ⟨b,off,none⟩ -> zs ≠ [] -> ¬ S b):Reads k w' a zs:=by
 rcases h with h | ⟨b,off,ha,h⟩
 ·exact .inl h
 ·
  by_cases hz:zs=[]
  ·exact .inl hz
  ·refine .inr ⟨b,off,ha,fun i hi=>?_⟩;rw [hk.cell (p:=⟨b,off + i,none⟩) (lt_of_cell (h i hi)) (hn b off ha hz)];exact h i hi
theorem Reads.nb {k:IntKind} {a:Option Addr} {zs:List Int} (h:Reads k w a zs) (hk:Keeps Nb w w'):Reads k w' a zs:=h.keeps hk (fun _ _ _ _ e=>e)
def ntn (l:List Nat) (i:Nat):Nat:=l.getD i 0
theorem z15 {l:List Nat} {i:Nat} (h:i < l.length):ntn l i=l[i]:=by simp [ntn,h]
theorem z6y {l:List Nat} {i:Nat} (h:i < l.length):ntn l i ∈ l:=by rw [z15 h];exact List.getElem_mem h
theorem zbn {l:List Nat} {k:Nat} (h:k < l.length):l.take (k + 1)=l.take k ++ [ntn l k]:=by
 rw [List.take_succ_eq_append_getElem h,z15 h]
theorem zb2 {l:List Nat} {k:Nat} (h:k < l.length):l.drop k=ntn l k :: l.drop (k + 1):=by
 rw [z15 h,List.drop_eq_getElem_cons h]
def ReadsN (k:IntKind) (w:World) (a:Option Addr) (l:List Nat):Prop :=
 l=[] \/ ∃ b off,a=some ⟨b,off,none⟩ /\ ∀ i,i < l.length -> w.cell? ⟨b,off + i,none⟩=some (.int k (ntn l i:Nat))
theorem ReadsN.keeps {k:IntKind} {a:Option Addr} {l:List Nat} (h:ReadsN k w a l) (hk:Keeps S w w') (hn:∀ b off,a=some ⟨b,off,none⟩ -> l ≠ [] -> ¬ S b):ReadsN k w' a l:=by
 rcases h with h | ⟨b,off,ha,h⟩
 ·exact .inl h
 ·
  by_cases hz:l=[]
  ·exact .inl hz
  ·refine .inr ⟨b,off,ha,fun i hi=>?_⟩;rw [hk.cell (p:=⟨b,off + i,none⟩) (lt_of_cell (h i hi)) (hn b off ha hz)];exact h i hi
theorem ReadsN.nb {k:IntKind} {a:Option Addr} {l:List Nat} (h:ReadsN k w a l) (hk:Keeps Nb w w'):ReadsN k w' a l:=h.keeps hk (fun _ _ _ _ e=>e)
theorem ReadsN.take {k:IntKind} {a:Option Addr} {l:List Nat} (h:ReadsN k w a l) (n:Nat):ReadsN k w a (l.take n):=by
 rcases h with rfl | ⟨b,off,ha,h⟩
 ·exact .inl (by simp)
 ·refine .inr ⟨b,off,ha,fun i hi=>?_⟩;rw [List.length_take] at hi;rw [h i (by omega)];simp [ntn,List.getD,show i < n by omega]
def Has (w:World) (a:Option Addr) (xs:List Value):Prop :=
 xs=[] \/ ∃ b off,a=some ⟨b,off,none⟩ /\ ∀ i v,xs[i]?=some v -> w.cell? ⟨b,off + i,none⟩=some v
theorem Has.keeps {a:Option Addr} {xs:List Value} (h:Has w a xs) (hk:Keeps S w w') (hn:∀ b off,a=some ⟨b,off,none⟩ -> xs ≠ [] -> ¬ S b):Has w' a xs:=by
 rcases h with h | ⟨b,off,ha,h⟩
 ·exact .inl h
 ·
  by_cases hz:xs=[]
  ·exact .inl hz
  ·refine .inr ⟨b,off,ha,fun i v hi=>?_⟩;rw [hk.cell (p:=⟨b,off + i,none⟩) (lt_of_cell (h i v hi)) (hn b off ha hz)];exact h i v hi
theorem Has.nb {a:Option Addr} {xs:List Value} (h:Has w a xs) (hk:Keeps Nb w w'):Has w' a xs:=h.keeps hk (fun _ _ _ _ e=>e)
def At (p:Prop):Prop:=p
theorem za {p:Prop} (h:p):At p:=h
structure ElemT (P:Program) (t e:TypeId) (size bytes:Nat) (z:Value):Prop where
 ht:P.underlying t=some (.slice e)
 hi:(P.info? e).map (fun i=>(i.zero,i.size,i.bytes))=some (some z,size,bytes)
 hz:z.cells.size=size
 pos:0 < size
section
variable {P:Program} {ops:Array Oper} {rest:List Oper} {dst:Option Tmp} {s x:Operand} {t ty e:TypeId} {pos:String} {aft:Array Edge} {a:Act} {Q:Exit -> Act -> World -> Prop} {size bytes:Nat} {z:Value}
theorem zg6 (hk:P.underlying t=some (.slice e)) (hpos:0 < size) {ad:Option Addr} {m c:Nat} {news:List Value} (h:Has w ad news) (hl:news.length=m * size) (h1:∀ u ∈ news,u.oneCell'=true) :
  Src P size t (.slice ad m c) m news w:=by
 rcases ad with _ | ad
 ·
  have hnews:news=[]:=by rcases h with h | ⟨_,_,h,_⟩;exact h;cases h
  subst hnews;have hm:m=0:=by
   rcases Nat.eq_zero_or_pos m with h | h
   ·exact h
   ·have:=Nat.mul_pos h hpos;simp at hl;omega
  subst hm;exact Src.ofNil w hk c
 ·
  refine Src.ofSlice w hk ad m c news hl ?_ h1;intro j u hj;rcases h with rfl | ⟨b',off',he,hh⟩
  ·simp at hj
  ·cases he;rw [Addr.add_lit];exact hh j u hj
theorem zal (ty:TypeId) (E:ElemT P t e size bytes z) {v:Value} {ad:Option Addr} {m c:Nat} (base n:Nat) (xs:List Value) (news:List Value) (hown:w.ownsRow base e size v n xs)
  (hsrc:Has w ad news) (hl:news.length=m * size) (h1:∀ u ∈ news,u.oneCell'=true)
  (h63:n + m <= maxLen) (hbytes:(n + m) * bytes <= 140737488355328) (hbase:base <= w.heap.size) :
  ∃ v' w',(Builtin.append_ #[t,t] ty #[v,.slice ad m c]).run P w=.ok v' w' /\ w'.ownsRow base e size v' (n + m) (xs ++ news) /\ w.grownBy w' v.ownBlock /\ (v'=.slice none 0 0 ↔ v=.slice none 0 0 /\ m=0):=by
 obtain ⟨i,hi,h4⟩:=Option.map_eq_some_iff.1 E.hi;simp only [Prod.mk.injEq] at h4;obtain ⟨hz,hsz,hby⟩:=h4;rcases ad with _ | ⟨b,off,sp⟩
 ·
  have hnews:news=[]:=by rcases hsrc with h | ⟨_,_,h,_⟩;exact h;cases h
  subst hnews;have hm:m=0:=by
   rcases Nat.eq_zero_or_pos m with h | h
   ·exact h
   ·have:=Nat.mul_pos h E.pos;simp at hl;omega
  subst hm;have key:(Builtin.append_ #[t,t] ty #[v,.slice none 0 c]).run P w=.ok v w:=by
   rcases hown.2 with ⟨rfl,rfl⟩ | ⟨g,cap,cur,rfl,hbg,hg,hnc,hcm,hcs,htake⟩
   ·simp [Builtin.append_,run_underlying E.ht,sizeOf,typeInfo,hi,Builtin.lenOf,Builtin.firstCells]
   ·have:=run_append_room_src (P:=P) w t t ty e i E.ht hi g 0 n cap (.slice none 0 c) 0 [] (Src.ofNil w E.ht c) (by omega) (fun _ h=>by cases h) (fun _ h=>by cases h);rw [this];rfl
  exact ⟨v,w,key,by simpa using hown,⟨rfl,rfl,rfl,Nat.le_refl _,fun _ _ _=>rfl⟩,by simp⟩
 ·
  refine run_append_own w base t ty e i z size bytes E.ht hi hz hsz hby E.hz E.pos v n xs hown ⟨b,off,sp⟩ m c news hl ?_ h1 h63 hbytes hbase;intro j u hj;rcases hsrc with rfl | ⟨b',off',he,hh⟩
  ·simp at hj
  ·cases he;rw [Addr.add_lit];exact hh j u hj
theorem zdl (E:ElemT P t e size bytes z) {v:Value} {ad:Option Addr} {m c:Nat} (base n:Nat) (xs:List Value) (news:List Value) (hown:w.ownsRow base e size v n xs) (hs:a.eval s=v) (hx:a.eval x=.slice ad m c)
  (hsrc:Has w ad news) (hl:news.length=m * size) (h1:∀ u ∈ news,u.oneCell'=true)
  (h63:n + m <= maxLen) (hbytes:(n + m) * bytes <= 140737488355328) (hbase:base <= w.heap.size)
  (h:∀ v' w',w'.ownsRow base e size v' (n + m) (xs ++ news) -> w.grownBy w' v.ownBlock -> (v'=.slice none 0 0 ↔ v=.slice none 0 0 /\ m=0) -> wpList P ops Q rest (a.put dst v') w') :
  wpList P ops Q (⟨dst,.call ⟨.builtin .append,#[s,x],#[t,t]⟩,ty,pos,aft,none⟩ :: rest) a w:=by
 refine wpList_plain rfl fun K hK=>?_;obtain ⟨v',w',key,h2,h3,h4⟩:=zal (c:=c) ty E base n xs news hown hsrc hl h1 h63 hbytes hbase;unfold Oper.wp execOp;simp only [resolve,invoke,builtin,Sem.run_bind,Sem.run_pure,Result.andThen_ok,List.map_toArray,List.map_cons,List.map_nil,hs,hx,key];exact hK _ _ (h v' w' h2 h3 h4)
theorem zev (ty:TypeId) (E:ElemT P t e size bytes z) {ad ad2:Option Addr} {m c c2:Nat} (n:Nat) (xs:List Value) (news:List Value) (hd:Has w ad xs) (hdl:xs.length=n * size)
  (hsrc:Has w ad2 news) (hl:news.length=m * size) (h1:∀ u ∈ news,u.oneCell'=true) (hg:c < n + m)
  (h63:n + m <= maxLen) (hbytes:(n + m) * bytes <= 140737488355328) :
  ∃ v' w',(Builtin.append_ #[t,t] ty #[.slice ad n c,.slice ad2 m c2]).run P w=.ok v' w' /\ w'.ownsRow w.heap.size e size v' (n + m) (xs ++ news) /\ w.grownBy w' none:=by
 obtain ⟨i,hi,h4⟩:=Option.map_eq_some_iff.1 E.hi;simp only [Prod.mk.injEq] at h4;obtain ⟨hz,hsz,hby⟩:=h4;have hsrc':=zg6 (c:=c2) E.ht E.pos hsrc hl h1;have hold:(Builtin.firstCells i.size n (.slice ad n c)).run P w.drew=.ok xs.toArray w.drew:=by
  rcases ad with _ | ad
  ·
   have hxs:xs=[]:=by rcases hd with h | ⟨_,_,h,_⟩;exact h;cases h
   subst hxs;exact run_firstCells_none w.drew i.size n n c
  ·
   refine run_firstCells_some w.drew i.size n ad n c xs (by rw [hsz];exact hdl) ?_;intro j u hj;rcases hd with rfl | ⟨b',off',he,hh⟩
   ·simp at hj
   ·cases he;rw [Addr.add_lit];exact hh j u hj
 have key:=run_append_grow_src (P:=P) w t t ty e i z E.ht hi hz ad n c xs hold (.slice ad2 m c2) m news (by rw [hsz];exact hsrc') hg (by simp only [maxLen] at h63;omega) (growslice_fits (by omega) (by rw [hby];exact hbytes));refine ⟨_,_,key,⟨by simp [hdl,hl,Nat.add_mul],.inr ⟨_,_,_,rfl,Nat.le_refl _,z2b w.drew _,grownCap_ge _ _ _ _,grownCap_le_maxLen _ _ _ _ h63,?_,?_⟩⟩,⟨rfl,rfl,rfl,by simp,fun k hk _=>Below.heap_alloc w.drew _ k hk⟩⟩
 ·
  simp only [Array.size_append,List.size_toArray,size_zeroCells,E.hz,List.length_append,hdl,hl,<- Nat.add_mul]
  congr 1
  have:=grownCap_ge w (n + m) c e;omega
 ·rw [Array.toList_append];simp only [];rw [show (n + m) * size=(xs ++ news).length by simp [hdl,hl,Nat.add_mul]];exact List.take_left
end
theorem z08 {base n:Nat} {e:TypeId} {size:Nat} {v:Value} {xs:List Value} (h:w.ownsRow base e size v n xs) (hk:Keeps S w w') (hn:∀ k,base <= k -> ¬ S k):w'.ownsRow base e size v n xs:=by
 obtain ⟨h1,h2⟩:=h;refine ⟨h1,?_⟩;rcases h2 with h2 | ⟨g,cap,cur,hv,hg,hh,r⟩
 ·exact .inl h2
 ·exact .inr ⟨g,cap,cur,hv,hg,by rw [hk.block g (lt_of_block hh) (hn g hg)];exact hh,r⟩
theorem z3b {base base' n:Nat} {e:TypeId} {size:Nat} {v:Value} {xs:List Value} (h:w.ownsRow base e size v n xs) (hb:base' <= base):w.ownsRow base' e size v n xs:=by
 obtain ⟨h1,h2⟩:=h;refine ⟨h1,?_⟩;rcases h2 with h2 | ⟨g,cap,cur,hv,hg,r⟩
 ·exact .inl h2
 ·exact .inr ⟨g,cap,cur,hv,Nat.le_trans hb hg,r⟩
end Go.Lk
end
section
theorem qq {p:Prop} (h:p):Go.RowKit.Hid p:=Go.Lib.hid h
namespace Go.Lk
theorem qn:(∀ n:Nat,0 + n=n) /\ (∀ (a:Act) d v,a.put (some d) v={ a with tmps:=a.tmps.setIfInBounds d v }) /\ (∀ (a:Act) v,a.put none v=a) /\ (∀ (l:List Value) i x,l.toArray.setIfInBounds i x=(l.set i x).toArray) /\ (∀ (a:Value) l i x,(a :: l).set (i + 1) x=a :: l.set i x) /\ (∀ (a:Value) l x,(a :: l).set 0 x=x :: l) :=
  ⟨Nat.zero_add,fun _ _ _=>rfl,fun _ _=>rfl,fun _ _ _=>by simp only [List.setIfInBounds_toArray],fun _ _ _ _=>rfl,fun _ _ _=>rfl⟩
theorem qi:(∀ (l:List Oper) (i:Nat),l.toArray[i]?=l[i]?) /\ (∀ (a:Oper) (l:List Oper) (i:Nat),(a :: l)[i + 1]?=l[i]?) /\ ∀ (a:Oper) (l:List Oper),(a :: l)[0]?=some a :=
  ⟨fun _ _=>by simp only [List.getElem?_toArray],fun _ _ _=>rfl,fun _ _=>rfl⟩
end Go.Lk
end
section
namespace Go.Lk
open Go.RowKit
variable {S S':Nat -> Prop} {b c w w':World}
theorem Keeps.setRow {a w:World} (h:Keeps S a w) {g:Nat} (hp:g < a.heap.size -> S g) (cs:Array Value):Keeps S a (w.setRow g cs) :=
 ⟨h.os,h.tape,h.output,by simpa using h.size,fun k hk hn=>by
  rw [setRow_other w g k cs (by rintro rfl;exact hn (hp hk))];exact h.block k hk hn⟩
structure AggT (P:Program) (t:TypeId) (n:Nat):Prop where
 agg:(P.underlying t).map (fun d=>match d with | .struct _ | .array _ _=>true | _=>false)=some true
 size:(P.info? t).map (·.size)=some n
theorem AggT.isAgg {P:Program} {t:TypeId} {n:Nat} (h:AggT P t n) (w:World):(isAgg t).run P w=.ok true w:=by
 obtain ⟨d,hd,h2⟩:=Option.map_eq_some_iff.1 h.agg;unfold Go.isAgg;rw [Sem.run_bind,run_underlying hd w];cases d <;> simp_all
theorem AggT.sizeOf {P:Program} {t:TypeId} {n:Nat} (h:AggT P t n) (w:World):(sizeOf t).run P w=.ok n w:=by
 obtain ⟨i,hi,h2⟩:=Option.map_eq_some_iff.1 h.size;simp [Go.sizeOf,typeInfo,hi,h2]
theorem z5i {P:Program} {t T:TypeId} {n g off:Nat} {cs:Array Value} {fr:Nat × Nat} (h:AggT P t n) (hg:w.heap[g]?=some (.cells cs T fr)) (hn:off + n <= cs.size) :
  (loadVar t ⟨g,off,none⟩).run P w=.ok (.agg (cs.extract off (off + n))) w:=by
 have hsz:(cs.extract off (off + n)).toList.length=n:=by simp;omega
 have hl:=run_loadCells_list (P:=P) w ⟨g,off,none⟩ (cs.extract off (off + n)).toList (fun j v hv=>by
  rw [Addr.add_lit,cell_of_block hg];rw [Array.getElem?_toList,Array.getElem?_extract] at hv;split at hv
  ·exact hv
  ·cases hv)
 rw [hsz,Array.toArray_toList] at hl;simp [loadVar,Sem.run_bind,h.isAgg,h.sizeOf,hl]
def splice (cs ds:Array Value) (off:Nat):Array Value:=(cs.toList.take off ++ ds.toList ++ cs.toList.drop (off + ds.size)).toArray
theorem z2p {cs ds:Array Value} (h:ds.size=cs.size):splice cs ds 0=ds:=by
 simp [splice,h];rw [List.drop_of_length_le (by simp),List.append_nil]
theorem z91 {P:Program} {t T:TypeId} {n g off:Nat} {cs ds:Array Value} (h:(P.info? t).map (·.size)=some n) (hg:w.heap[g]?=some (.cells cs T (0,0))) (hd:ds.size=n) (hn:off + n <= cs.size)
  (h1:∀ v ∈ ds.toList,v.oneCell'=true):(storeVar t ⟨g,off,none⟩ (.agg ds)).run P w=.ok () (w.setRow g (splice cs ds off)):=by
 obtain ⟨i,hi,h2⟩:=Option.map_eq_some_iff.1 h;have hst:=run_storeCells_at P g off T ds.toList 0 cs w hg (by simpa [hd] using hn) h1;simp only [Nat.add_zero,Array.length_toList] at hst;simp [storeVar,Value.cells,Go.sizeOf,typeInfo,hi,h2,hd,hst,splice]
section
variable {P:Program} {ops:Array Oper} {rest:List Oper} {dst:Option Tmp} {s x:Operand} {t ty T:TypeId} {pos:String} {aft:Array Edge} {a:Act} {Q:Exit -> Act -> World -> Prop} {n g off:Nat} {cs ds:Array Value} {fr:Nat × Nat}
theorem z5t {z:Value} (hz:(P.info? t).map (·.zero)=some (some z)) (h:wpList P ops Q rest (a.put dst (.pointer (some ⟨w.heap.size,0,none⟩))) (w.alloc (.cells z.cells t))) :
  wpList P ops Q (⟨dst,.alloc t,ty,pos,aft,none⟩ :: rest) a w:=by
 obtain ⟨i,hi,h2⟩:=Option.map_eq_some_iff.1 hz;refine wpList_plain rfl fun K hK=>?_;unfold Oper.wp execOp;simp only [Instr.alloc,zeroValue,typeInfo,newVar,newRow,Sem.run_bind,Sem.run_pure,Result.andThen_ok,Sem.run,newObj];simp [hi,h2];exact hK _ _ h
theorem zhg (A:AggT P t n) (hx:a.eval x=.pointer (some ⟨g,off,none⟩)) (hg:w.heap[g]?=some (.cells cs T fr)) (hn:off + n <= cs.size)
  (h:wpList P ops Q rest (a.put dst (.agg (cs.extract off (off + n)))) w):wpList P ops Q (⟨dst,.load t x,ty,pos,aft,none⟩ :: rest) a w:=by
 refine wpList_plain rfl fun K hK=>?_;unfold Oper.wp execOp;simp only [hx,Instr.loadAt,Instr.sureAddr,Sem.run_bind,Sem.run_pure,Result.andThen_ok,z5i A hg hn];exact hK _ _ h
theorem zfb (A:(P.info? t).map (·.size)=some n) (hs:a.eval s=.pointer (some ⟨g,off,none⟩)) (hx:a.eval x=.agg ds) (hg:w.heap[g]?=some (.cells cs T (0,0))) (hd:ds.size=n) (hn:off + n <= cs.size)
  (h1:∀ v ∈ ds.toList,v.oneCell'=true) (h:wpList P ops Q rest (a.put dst undef) (w.setRow g (splice cs ds off))):wpList P ops Q (⟨dst,.store t s x,ty,pos,aft,none⟩ :: rest) a w:=by
 refine wpList_plain rfl fun K hK=>?_;unfold Oper.wp execOp;simp only [hs,hx,Instr.storeAt,Instr.sureAddr,Sem.run_bind,Sem.run_pure,Result.andThen_ok,z91 A hg hd hn h1];exact hK _ _ h
theorem wp_box (hx:a.eval x=.agg cs) (h:wpList P ops Q rest (a.put dst (.pointer (some ⟨w.heap.size,0,none⟩))) (w.alloc (.cells cs t))) :
  wpList P ops Q (⟨dst,.box t x,ty,pos,aft,none⟩ :: rest) a w:=by
 refine wpList_plain rfl fun K hK=>?_;unfold Oper.wp execOp;simp only [hx,Instr.box,newVar,newRow,Sem.run_bind,Sem.run_pure,Result.andThen_ok,Sem.run,newObj];exact hK _ _ h
theorem zbu (A:AggT P t n) (hx:a.eval x=.pointer (some ⟨g,0,none⟩)) (hg:w.heap[g]?=some (.cells cs T fr)) (hn:cs.size=n)
  (h:wpList P ops Q rest (a.put dst (.agg cs)) w):wpList P ops Q (⟨dst,.load t x,ty,pos,aft,none⟩ :: rest) a w :=
 zhg A hx hg (by omega) (by rw [Nat.zero_add,<- hn,Array.extract_size];exact h)
theorem z5j (A:(P.info? t).map (·.size)=some n) (hs:a.eval s=.pointer (some ⟨g,0,none⟩)) (hx:a.eval x=.agg ds) (hg:w.heap[g]?=some (.cells cs T (0,0))) (hd:ds.size=n) (hn:cs.size=n)
  (h1:∀ v ∈ ds.toList,v.oneCell'=true) (h:wpList P ops Q rest (a.put dst undef) (w.setRow g ds)):wpList P ops Q (⟨dst,.store t s x,ty,pos,aft,none⟩ :: rest) a w :=
 zfb A hs hx hg hd (by omega) h1 (by rw [z2p (by omega)];exact h)
end
theorem z9m {P:Program} {fn:Func} {p:Tmp} {ty T:TypeId} {g n:Nat} {cs:Array Value} {fr:Nat × Nat} (A:AggT P ty n) (h:fn.results=#[.cell p ty]) (tmps:Array Value) (hp:tmps.getD p undef=.pointer (some ⟨g,0,none⟩)) (hg:w.heap[g]?=some (.cells cs T fr)) (hn:cs.size=n) :
  (results fn tmps).run P w=.ok (.agg cs) w:=by
 have hp':tmps[p]?.getD undef=.pointer (some ⟨g,0,none⟩):=by simpa using hp
 have hl:=z5i (w:=w) (off:=0) A hg (by omega);rw [Nat.zero_add,<- hn,Array.extract_size] at hl;simp [results,h,hp',asAddr,hl]
end Go.Lk
end
section
namespace Go.Lk
open Go.RowKit
variable {S:Nat -> Prop} {w w':World}
def OwnB (k:IntKind) (E:TypeId) (w:World) (g:Nat) (m:List Nat):Prop :=
 ∃ cur:Array Value,w.heap[g]?=some (.cells cur E (0,0)) /\ m.length <= cur.size /\ cur.toList.take m.length=m.map fun x=>.int k (x:Nat)
variable {k:IntKind} {E:TypeId} {g:Nat} {m:List Nat}
theorem OwnB.cell (h:OwnB k E w g m) {i:Nat} (hi:i < m.length):w.cell? ⟨g,i,none⟩=some (.int k (ntn m i:Nat)):=by
 obtain ⟨cur,h1,h2,h3⟩:=h;rw [cell_of_block h1,<- Array.getElem?_toList];have:(cur.toList.take m.length)[i]?=some (.int k (ntn m i:Nat)):=by rw [h3,List.getElem?_map,List.getElem?_eq_getElem hi,z15 hi];rfl
 rwa [List.getElem?_take,if_pos hi] at this
theorem OwnB.free (h:OwnB k E w g m) (i:Nat):w.frozen? ⟨g,i,none⟩=false:=by
 obtain ⟨cur,h1,-⟩:=h;exact z48 h1
theorem OwnB.reads (h:OwnB k E w g m):ReadsN k w (some ⟨g,0,none⟩) m:=.inr ⟨g,0,rfl,fun i hi=>by rw [Nat.zero_add];exact h.cell hi⟩
theorem OwnB.readsFrom (h:OwnB k E w g m) (j:Nat):ReadsN k w (some ⟨g,j,none⟩) (m.drop j):=.inr ⟨g,j,rfl,fun i hi=>by
 rw [List.length_drop] at hi
 rw [h.cell (by omega)];simp [ntn,List.getD]⟩
theorem zbd {base:Nat} {v:Value} {n:Nat} (h:w.ownsRow base E 1 v n (m.map fun x=>.int k (x:Nat))) (hm:m ≠ []):∃ g c,v=.slice (some ⟨g,0,none⟩) n c /\ n=m.length /\ n <= c /\ c <= maxLen /\ base <= g /\ OwnB k E w g m:=by
 obtain ⟨h1,h2⟩:=h;rw [List.length_map,Nat.mul_one] at h1;rcases h2 with ⟨rfl,rfl⟩ | ⟨g,cap,cur,rfl,hbg,hg,hnc,hcm,hcs,htake⟩
 ·exact absurd (List.eq_nil_of_length_eq_zero h1) hm
 ·refine ⟨g,cap,rfl,h1.symm,hnc,hcm,hbg,cur,hg,by omega,?_⟩;rw [h1];rwa [Nat.mul_one] at htake
theorem ReadsN.has {a:Option Addr} {l:List Nat} (h:ReadsN k w a l):Has w a (l.map fun x=>.int k (x:Nat)):=by
 rcases h with rfl | ⟨b,off,ha,h⟩
 ·exact .inl rfl
 ·
  refine .inr ⟨b,off,ha,fun i v hi=>?_⟩;rw [List.getElem?_map] at hi;by_cases hl:i < l.length
  ·rw [List.getElem?_eq_getElem hl] at hi;simp only [Option.map_some,Option.some.injEq] at hi;rw [h i hl,z15 hl,hi]
  ·rw [List.getElem?_eq_none (by omega)] at hi;simp at hi
theorem ReadsN.drop {l:List Nat} {b off:Nat} (h:ReadsN k w (some ⟨b,off,none⟩) l) (j:Nat):ReadsN k w (some ⟨b,off + j,none⟩) (l.drop j):=by
 rcases h with rfl | ⟨b',off',ha,h⟩
 ·exact .inl (by simp)
 ·cases ha;refine .inr ⟨b,off + j,rfl,fun i hi=>?_⟩;rw [List.length_drop] at hi;rw [Nat.add_assoc,h (j + i) (by omega)];simp [ntn,List.getD]
theorem z1u {l:List Nat}:∀ u ∈ l.map (fun x=>Value.int k (x:Nat)),u.oneCell'=true:=by
 intro u hu;obtain ⟨_,_,rfl⟩:=List.mem_map.1 hu;rfl
end Go.Lk
end
section
namespace Go.Lk
open Go.RowKit
variable {S:Nat -> Prop} {w w':World}
def arrV (k:IntKind) (m:List Nat):Array Value:=(m.map fun x=>Value.int k (x:Nat)).toArray
theorem zc4 (k:IntKind) (m:List Nat):(arrV k m).size=m.length:=by simp [arrV]
def ArrB (k:IntKind) (T:TypeId) (w:World) (g:Nat) (m:List Nat):Prop:=w.heap[g]?=some (.cells (arrV k m) T (0,0))
variable {k:IntKind} {T:TypeId} {g:Nat} {m:List Nat}
theorem ArrB.own (h:ArrB k T w g m):OwnB k T w g m:=⟨_,h,by rw [zc4];exact Nat.le_refl _,by rw [arrV];exact List.take_of_length_le (by simp)⟩
theorem ArrB.set (h:ArrB k T w g m) (j x:Nat):ArrB k T (w.setCell ⟨g,j,none⟩ (.int k (x:Nat))) g (m.set j x):=by
 have:=block_setCell (i:=j) h (.int k (x:Nat));unfold ArrB;rw [this]
 congr 2
 simp [arrV,List.map_set]
theorem ArrB.keeps (h:ArrB k T w g m) (hk:Keeps S w w') (hn:¬ S g):ArrB k T w' g m:=(hk.block g (lt_of_block h) hn).trans h
end Go.Lk
end
section
namespace Go.Lk
open Go.RowKit
variable {P:Program} {t e:TypeId} {len:Nat} {k:IntKind}
end Go.Lk
end
section
namespace Go.Lk
open Go.RowKit
variable {P:Program}
variable {t:TypeId} {ks:List IntKind}
end Go.Lk
end
section
namespace Go.Lk
open Go.RowKit Go.MapKept Go.ChangeMaps
open Go.Maps (Keyed)
variable {P:Program} {t k e:TypeId} {ks:List IntKind} {S:Nat -> Prop} {w w':World} {b:Nat}
end Go.Lk
end
section
namespace Go.Lk
open Go.RowKit
variable {P:Program} {w:World}
theorem z8e (off:Nat):∀ (vs:List Value) (j:Nat) (A B:List Value),A.length=off + j -> vs.length <= B.length ->
  (vs.zipIdx j).foldl (fun (cs:Array Value) p=>cs.setIfInBounds (off + p.2) p.1) (A ++ B).toArray=(A ++ vs ++ B.drop vs.length).toArray
 | [],j,A,B,_,_=>by simp
 | v :: vs,j,A,B,h,hB=>by
  rcases B with _ | ⟨x,B⟩
  ·simp at hB
  ·
   rw [List.zipIdx_cons,List.foldl_cons];have h1:(A ++ x :: B).toArray.setIfInBounds (off + j) v=((A ++ [v]) ++ B).toArray:=by
    rw [List.setIfInBounds_toArray,<- h,List.set_append_right _ _ (Nat.le_refl _)];simp
   rw [h1,z8e off vs (j + 1) (A ++ [v]) B (by simp;omega) (by simpa using hB)];simp
theorem z8c (pl:Nat -> Option (Nat × Nat)):∀ (vs:List Value) (i:Nat) (A B:List Value),
  (∀ j v,vs[j]?=some v -> pl (i + j)=some (A.length + ((vs.take j).map (·.cells.size)).sum,v.cells.size)) -> (vs.map (·.cells.size)).sum=B.length ->
  Instr.fill pl (A ++ B).toArray ((List.range' i vs.length).zip vs)=some (A ++ vs.flatMap (·.cells.toList)).toArray
 | [],i,A,B,_,hB=>by
  have:B=[]:=List.eq_nil_of_length_eq_zero (by simpa using hB.symm);subst this;simp [Instr.fill]
 | v :: vs,i,A,B,h,hB=>by
  simp only [List.map_cons,List.sum_cons] at hB;have h0:=h 0 v rfl;simp only [Nat.add_zero,List.take_zero,List.map_nil,List.sum_nil] at h0;rw [List.length_cons,List.range'_succ,List.zip_cons_cons];unfold Instr.fill;simp only [h0];have hsz:¬ ((v.cells.size ≠ v.cells.size) || decide (A.length + v.cells.size > (A ++ B).toArray.size))=true:=by simp;omega
  rw [if_neg hsz];have hf:=z8e A.length v.cells.toList 0 A B (by simp) (by simp;omega);have e:v.cells.zipIdx.foldl (fun cs x=>match x with | (c,j)=>cs.setIfInBounds (A.length + j) c) (A ++ B).toArray=(A ++ v.cells.toList ++ B.drop v.cells.size).toArray:=by
   rw [<- Array.foldl_toList,Array.toList_zipIdx];rw [Array.length_toList] at hf;exact hf
  rw [e,z8c pl vs (i + 1) (A ++ v.cells.toList) (B.drop v.cells.size) (fun j u hu=>by
   have:=h (j + 1) u (by simpa using hu);rw [show i + 1 + j=i + (j + 1) by omega,this]
   simp;omega) (by simp;omega)]
  simp
section
variable {t:TypeId} {n:Nat} {L:List Value} {g off:Nat}
theorem z9n (A:AggT P t n) (h:Has w (some ⟨g,off,none⟩) L) (hl:L.length=n):(loadVar t ⟨g,off,none⟩).run P w=.ok (.agg L.toArray) w:=by
 have hs:=run_loadCells_list (P:=P) w ⟨g,off,none⟩ L (fun j v hv=>by
  rcases h with rfl | ⟨b,o,he,h⟩
  ·simp at hv
  ·cases he;rw [Addr.add_lit];exact h j v hv)
 rw [hl] at hs;simp [loadVar,Sem.run_bind,A.isAgg,A.sizeOf,hs]
theorem Has.left {X Y:List Value} (h:Has w (some ⟨g,off,none⟩) (X ++ Y)):Has w (some ⟨g,off,none⟩) X:=by
 rcases h with h | ⟨b,o,he,h⟩
 ·exact .inl (List.append_eq_nil_iff.1 h).1
 ·refine .inr ⟨b,o,he,fun i v hi=>h i v ?_⟩;rw [List.getElem?_append_left (List.getElem?_eq_some_iff.1 hi).1];exact hi
theorem Has.right {X Y:List Value} (h:Has w (some ⟨g,off,none⟩) (X ++ Y)) {m:Nat} (hm:X.length=m):Has w (some ⟨g,off + m,none⟩) Y:=by
 subst hm;rcases h with h | ⟨b,o,he,h⟩
 ·exact .inl (List.append_eq_nil_iff.1 h).2
 ·cases he;refine .inr ⟨g,_,rfl,fun i v hi=>?_⟩;rw [Nat.add_assoc];refine h (X.length + i) v ?_;rw [List.getElem?_append_right (by omega)];simpa using hi
theorem zt {cs:Array Value} {T:TypeId} {fr:Nat × Nat} (h:w.heap[g]?=some (.cells cs T fr)):Has w (some ⟨g,0,none⟩) cs.toList :=
 .inr ⟨g,0,rfl,fun i v hi=>by rw [Nat.zero_add,cell_of_block h,<- Array.getElem?_toList];exact hi⟩
variable {ops:Array Oper} {rest:List Oper} {dst:Option Tmp} {x:Operand} {ty:TypeId} {pos:String} {aft:Array Edge} {a:Act} {Q:Exit -> Act -> World -> Prop}
end
end Go.Lk
end
section
namespace Go.Lk
open Go.RowKit
variable {P:Program} {S S':Nat -> Prop} {w w' w2:World}
structure NewAt (w w':World) (g:Nat) (o:Obj):Prop where
 ge:w.heap.size <= g
 blk:w'.heap[g]?=some o
 k:Keeps Nb w w'
theorem newAt (w:World) (o:Obj):NewAt w (w.alloc o) w.heap.size o:=⟨Nat.le_refl _,z2b _ _,(Keeps.refl _ _).alloc _⟩
theorem NewAt.lt {g:Nat} {o:Obj} (h:NewAt w w' g o):g < w'.heap.size:=lt_of_block h.blk
structure SetAt (w w':World) (g:Nat) (o:Obj):Prop where
 blk:w'.heap[g]?=some o
 k:Keeps (·=g) w w'
theorem zdb {g:Nat} {cs ds:Array Value} {T:TypeId} {fr:Nat × Nat} (h:w.heap[g]?=some (.cells cs T fr)):SetAt w (w.setRow g ds) g (.cells ds T fr) :=
 ⟨setRow_heap _ _ _ _ _ _ h,(Keeps.refl (·=g) w).setRow (fun _=>rfl) _⟩
theorem Keeps.at {g:Nat} {o:Obj} (h:Keeps S w w') (hb:w.heap[g]?=some o) (hn:¬ S g):w'.heap[g]?=some o:=(h.block g (lt_of_block hb) hn).trans hb
theorem Keeps.nb {g:Nat} {o:Obj} (h:Keeps Nb w w') (hb:w.heap[g]?=some o):w'.heap[g]?=some o:=h.at hb (fun e=>e)
section
variable {ops:Array Oper} {rest:List Oper} {dst:Option Tmp} {s x:Operand} {t ty T:TypeId} {pos:String} {aft:Array Edge} {a:Act} {Q:Exit -> Act -> World -> Prop} {n g off:Nat} {cs ds:Array Value} {fr:Nat × Nat}
theorem vbox (hx:a.eval x=.agg cs) (h:∀ g w',NewAt w w' g (.cells cs t) -> wpList P ops Q rest (a.put dst (.pointer (some ⟨g,0,none⟩))) w') :
  wpList P ops Q (⟨dst,.box t x,ty,pos,aft,none⟩ :: rest) a w:=wp_box hx (h _ _ (newAt _ _))
theorem valloc {z:Value} (hz:(P.info? t).map (·.zero)=some (some z)) (h:∀ g w',NewAt w w' g (.cells z.cells t) -> wpList P ops Q rest (a.put dst (.pointer (some ⟨g,0,none⟩))) w') :
  wpList P ops Q (⟨dst,.alloc t,ty,pos,aft,none⟩ :: rest) a w:=z5t hz (h _ _ (newAt _ _))
theorem stop_load {gd:Option (Nat × Bool)} (h:At (wpList P ops Q (⟨dst,.load t x,ty,pos,aft,gd⟩ :: rest) a w)):wpList P ops Q (⟨dst,.load t x,ty,pos,aft,gd⟩ :: rest) a w:=h
theorem zf {gd:Option (Nat × Bool)} (h:At (wpList P ops Q (⟨dst,.store t s x,ty,pos,aft,gd⟩ :: rest) a w)):wpList P ops Q (⟨dst,.store t s x,ty,pos,aft,gd⟩ :: rest) a w:=h
theorem zm {gd:Option (Nat × Bool)} (h:At (wpList P ops Q (⟨dst,.box t x,ty,pos,aft,gd⟩ :: rest) a w)):wpList P ops Q (⟨dst,.box t x,ty,pos,aft,gd⟩ :: rest) a w:=h
theorem z2q {gd:Option (Nat × Bool)} (h:At (wpList P ops Q (⟨dst,.alloc t,ty,pos,aft,gd⟩ :: rest) a w)):wpList P ops Q (⟨dst,.alloc t,ty,pos,aft,gd⟩ :: rest) a w:=h
theorem zbk {gd:Option (Nat × Bool)} {parts:Array (Nat × Operand)} (h:At (wpList P ops Q (⟨dst,.build t parts,ty,pos,aft,gd⟩ :: rest) a w)):wpList P ops Q (⟨dst,.build t parts,ty,pos,aft,gd⟩ :: rest) a w:=h
theorem z3h {gd:Option (Nat × Bool)} {ok:Bool} (h:At (wpList P ops Q (⟨dst,.lookup t s x ok,ty,pos,aft,gd⟩ :: rest) a w)):wpList P ops Q (⟨dst,.lookup t s x ok,ty,pos,aft,gd⟩ :: rest) a w:=h
theorem zo {gd:Option (Nat × Bool)} {m:Nat} {parts:Array (Nat × Operand)} (h:At (wpList P ops Q (⟨dst,.buildSlice t m parts,ty,pos,aft,gd⟩ :: rest) a w)):wpList P ops Q (⟨dst,.buildSlice t m parts,ty,pos,aft,gd⟩ :: rest) a w:=h
theorem z94 {gd:Option (Nat × Bool)} {t2:TypeId} (h:At (wpList P ops Q (⟨dst,.call ⟨.builtin .append,#[s,x],#[t,t2]⟩,ty,pos,aft,gd⟩ :: rest) a w)):wpList P ops Q (⟨dst,.call ⟨.builtin .append,#[s,x],#[t,t2]⟩,ty,pos,aft,gd⟩ :: rest) a w:=h
theorem zw {o:Oper} {v:Value} (hw:Region.wanted o (yielded ops a.tmps)=true) (hr:(execOp a.eval o).run P w=.ok (.value v) w') (h:wpList P ops Q rest (a.put o.dst v) w'):wpList P ops Q (o :: rest) a w :=
 wpList_step fun K hK=>by
  rw [if_pos hw];unfold Oper.wp;rw [hr];exact hK _ _ h
end
section
variable {dst:Option Tmp} {s x y:Operand} {t ty T:TypeId} {pos:String} {aft:Array Edge} {gd:Option (Nat × Bool)} {a:Act} {n g off:Nat} {L:List Value}
theorem z2z (A:AggT P t n) (hx:a.eval x=.pointer (some ⟨g,off,none⟩)) (hh:Has w (some ⟨g,off,none⟩) L) (hl:L.length=n) :
  (execOp a.eval ⟨dst,.load t x,ty,pos,aft,gd⟩).run P w=.ok (.value (.agg L.toArray)) w:=by
 unfold execOp;simp only [hx,Instr.loadAt,Instr.sureAddr,Sem.run_bind,Sem.run_pure,Result.andThen_ok,z9n A hh hl]
end
section
variable {ops:Array Oper} {rest:List Oper} {C:World -> Prop} {Q:Act -> Prop} {a:Act} {o:Oper} {v:Value}
theorem zay (hw:Region.wanted o (yielded ops a.tmps)=true) (hr:∀ w,C w -> (execOp a.eval o).run P w=.ok (.value v) w) (h:wpQuiet P ops C Q rest (a.put o.dst v)):wpQuiet P ops C Q (o :: rest) a :=
 wpQuiet_step fun K hK=>by
  rw [if_pos hw];refine ⟨v,fun w hc=>?_,hK _ h⟩;unfold Oper.quietAt;rw [hr w hc];exact ⟨rfl,rfl⟩
theorem stopq {op:Op} {dst:Option Tmp} {ty:TypeId} {pos:String} {aft:Array Edge} {gd:Option (Nat × Bool)} (h:At (wpQuiet P ops C Q (⟨dst,op,ty,pos,aft,gd⟩ :: rest) a)):wpQuiet P ops C Q (⟨dst,op,ty,pos,aft,gd⟩ :: rest) a:=h
end
end Go.Lk
end
section
namespace Go.Lk
open Go.RowKit
variable {P:Program} {S F R F' R':Nat -> Prop} {w w' w2:World}
def Up (F:Nat -> Prop) (w w':World):Nat -> Prop:=fun k=>F k \/ (w.heap.size <= k /\ k < w'.heap.size)
theorem Up.lt (h:∀ k,F k -> k < w.heap.size) (h1:w.heap.size <= w'.heap.size) {k:Nat} (hk:Up F w w' k):k < w'.heap.size:=by
 rcases hk with h2 | h2
 ·have:=h k h2;omega
 ·exact h2.2
def IsT (w:World) (e:TypeId) (k:Nat):Prop:=∃ cur fr,w.heap[k]?=some (.cells cur e fr)
theorem IsT.keeps {e:TypeId} {k:Nat} (h:IsT w e k) (hk:Keeps S w w') (hn:¬ S k):IsT w' e k:=by obtain ⟨cur,fr,h⟩:=h;exact ⟨cur,fr,hk.at h hn⟩
theorem IsT.ne {e e':TypeId} {k k':Nat} (h:IsT w e k) (h':IsT w e' k') (hne:e ≠ e'):k ≠ k':=by
 rintro rfl;obtain ⟨c,f,h⟩:=h;obtain ⟨c',f',h'⟩:=h';rw [h] at h';cases h';exact hne rfl
theorem IsT.map {e:TypeId} {k k':Nat} {es:Array MapEntry} {cl:Nat} (h:IsT w e k) (h':w.heap[k']?=some (.map es cl)):k ≠ k':=by
 rintro rfl;obtain ⟨c,f,h⟩:=h;rw [h] at h';cases h'
def RowS (w:World) (F R:Nat -> Prop) (e:TypeId) (size:Nat) (v:Value) (n:Nat) (xs:List Value):Prop :=
 xs.length=n * size /\ (∀ u ∈ xs,u.oneCell'=true) /\ ∃ a c,v=.slice a n c /\ n <= c /\ c <= maxLen /\ Has w a xs /\ (∀ b off,a=some ⟨b,off,none⟩ -> xs ≠ [] -> (F b \/ R b) /\ IsT w e b) /\
  (c=n \/ (w.ownsRow 0 e size v n xs /\ ∀ g,v.ownBlock=some g -> F g))
theorem RowS.mono {e:TypeId} {size n:Nat} {v:Value} {xs:List Value} (h:RowS w F R e size v n xs) (hF:∀ k,F k -> F' k) (hR:∀ k,R k -> R' k):RowS w F' R' e size v n xs:=by
 obtain ⟨h1,h2,a,c,h3,h4,h5,h6,h7,h8⟩:=h;exact ⟨h1,h2,a,c,h3,h4,h5,h6,fun b off e hz=>⟨(h7 b off e hz).1.imp (hF b) (hR b),(h7 b off e hz).2⟩,h8.imp id fun ⟨x,y⟩=>⟨x,fun g hg=>hF g (y g hg)⟩⟩
theorem RowS.keeps {e:TypeId} {size n:Nat} {v:Value} {xs:List Value} (h:RowS w F R e size v n xs) (hk:Keeps S w w') (hn:∀ k,(F k \/ R k) -> IsT w e k -> ¬ S k):RowS w' F R e size v n xs:=by
 obtain ⟨h1,h2,a,c,h3,h4,h5,h6,h7,h8⟩:=h;refine ⟨h1,h2,a,c,h3,h4,h5,h6.keeps hk (fun b off e hz=>hn b (h7 b off e hz).1 (h7 b off e hz).2),fun b off e hz=>⟨(h7 b off e hz).1,(h7 b off e hz).2.keeps hk (hn b (h7 b off e hz).1 (h7 b off e hz).2)⟩,h8.imp id fun ⟨x,y⟩=>⟨?_,y⟩⟩;obtain ⟨x1,x2⟩:=x;refine ⟨x1,?_⟩;rcases x2 with x2 | ⟨g,cap,cur,hv,hg,hh,r⟩
 ·exact .inl x2
 ·exact .inr ⟨g,cap,cur,hv,hg,(hk.block g (lt_of_block hh) (hn g (.inl (y g (by rw [hv];rfl))) ⟨_,_,hh⟩)).trans hh,r⟩
theorem RowS.nil (w:World) (F R:Nat -> Prop) (e:TypeId) (size:Nat):RowS w F R e size (.slice none 0 0) 0 [] :=
 ⟨by simp,by simp,none,0,rfl,Nat.le_refl _,Nat.zero_le _,.inl rfl,(fun _ _ h=>by cases h),.inl rfl⟩
theorem z05 {base n e size:Nat} {v:Value} {xs:List Value} (h:w.ownsRow base e size v n xs) :
  ∃ a c,v=.slice a n c /\ n <= c /\ c <= maxLen /\ Has w a xs /\ (∀ b off,a=some ⟨b,off,none⟩ -> v.ownBlock=some b /\ b < w.heap.size /\ base <= b /\ IsT w e b):=by
 obtain ⟨h1,h2⟩:=h;rcases h2 with ⟨rfl,h2⟩ | ⟨g,cap,cur,rfl,hbg,hg,hnc,hcm,hcs,htake⟩
 ·subst h2;exact ⟨none,0,rfl,Nat.le_refl _,Nat.zero_le _,.inl (List.eq_nil_of_length_eq_zero (by simpa using h1)),fun _ _ h=>by cases h⟩
 ·
  refine ⟨_,cap,rfl,hnc,hcm,.inr ⟨g,0,rfl,fun i v hv=>?_⟩,fun b off h=>by cases h;exact ⟨rfl,lt_of_block hg,hbg,_,_,hg⟩⟩;rw [Nat.zero_add,cell_of_block hg,<- Array.getElem?_toList];rw [<- htake] at hv;rw [List.getElem?_take] at hv;split at hv
  ·exact hv
  ·cases hv
section
variable {t e:TypeId} {size bytes:Nat} {z:Value}
theorem z2l (ty:TypeId) (E:ElemT P t e size bytes z) {v:Value} {ad:Option Addr} {m c:Nat} (base n:Nat) (xs:List Value) (news:List Value) (hown:w.ownsRow base e size v n xs)
  (hsrc:Has w ad news) (hl:news.length=m * size) (h1:∀ u ∈ news,u.oneCell'=true)
  (h63:n + m <= maxLen) (hbytes:(n + m) * bytes <= 140737488355328) (hbase:base <= w.heap.size) :
  ∃ v' w',(Builtin.append_ #[t,t] ty #[v,.slice ad m c]).run P w=.ok v' w' /\ w'.ownsRow base e size v' (n + m) (xs ++ news) /\ w.grownBy w' v.ownBlock /\ (v'.ownBlock=v.ownBlock \/ v'.ownBlock=some w.heap.size):=by
 rcases ad with _ | ⟨b,off,sp⟩
 ·
  obtain ⟨v',w',h2,h3,h4,h5⟩:=zal (c:=c) ty E base n xs news hown hsrc hl h1 h63 hbytes hbase;have hnews:news=[]:=by rcases hsrc with h | ⟨_,_,h,_⟩;exact h;cases h
  subst hnews;have hm:m=0:=by
   rcases Nat.eq_zero_or_pos m with h | h
   ·exact h
   ·have:=Nat.mul_pos h E.pos;simp at hl;omega
  subst hm;obtain ⟨i,hi,h6⟩:=Option.map_eq_some_iff.1 E.hi;have key:(Builtin.append_ #[t,t] ty #[v,.slice none 0 c]).run P w=.ok v w:=by
   rcases hown.2 with ⟨rfl,rfl⟩ | ⟨g,cap,cur,rfl,hbg,hg,hnc,hcm,hcs,htake⟩
   ·simp [Builtin.append_,run_underlying E.ht,sizeOf,typeInfo,hi,Builtin.lenOf,Builtin.firstCells]
   ·have:=run_append_room_src (P:=P) w t t ty e i E.ht hi g 0 n cap (.slice none 0 c) 0 [] (Src.ofNil w E.ht c) (by omega) (fun _ h=>by cases h) (fun _ h=>by cases h);rw [this];rfl
  rw [key] at h2;cases h2;exact ⟨v,w,key,h3,h4,.inl rfl⟩
 ·
  obtain ⟨i,hi,h4⟩:=Option.map_eq_some_iff.1 E.hi;simp only [Prod.mk.injEq] at h4;obtain ⟨hz,hsz,hby⟩:=h4
  obtain ⟨v',w',h2,h3,h5,-,h6⟩:=run_append_own_at w base t ty e i z size bytes E.ht hi hz hsz hby E.hz E.pos v n xs hown ⟨b,off,sp⟩ m c news hl (by
   intro j u hj;rcases hsrc with rfl | ⟨b',off',he,hh⟩
   ·simp at hj
   ·cases he;rw [Addr.add_lit];exact hh j u hj) h1 h63 hbytes hbase
  exact ⟨v',w',h2,h3,h5,h6⟩
theorem zew (ty:TypeId) (E:ElemT P t e size bytes z) {v:Value} {ad:Option Addr} {m c2 n:Nat} {xs news:List Value} (hv:RowS w F R e size v n xs)
  (hsrc:Has w ad news) (hl:news.length=m * size) (h1:∀ u ∈ news,u.oneCell'=true) (hm:0 < m)
  (h63:n + m <= maxLen) (hbytes:(n + m) * bytes <= 140737488355328) :
  ∃ v' w' S,(Builtin.append_ #[t,t] ty #[v,.slice ad m c2]).run P w=.ok v' w' /\ RowS w' (Up F w w') R e size v' (n + m) (xs ++ news) /\ Keeps S w w' /\ ∀ k,S k -> F k /\ IsT w e k:=by
 obtain ⟨k1,k2,a,c,rfl,k4,k5,k6,k7,k8⟩:=hv;have hone:∀ u ∈ xs ++ news,u.oneCell'=true:=fun u hu=>(List.mem_append.1 hu).elim (k2 u) (h1 u);have spot:∀ {w:World} {base n:Nat} {b off:Nat} {sp:Option Nat} {c':Nat} {ys:List Value},w.ownsRow base e size (.slice (some ⟨b,off,sp⟩) n c') n ys -> sp=none:=by
  intro w base n b off sp c' ys h;rcases h.2 with ⟨h,_⟩ | ⟨_,_,_,h,_⟩
  ·cases h
  ·cases h;rfl
 rcases k8 with rfl | ⟨x,y⟩
 ·
  obtain ⟨v',w',h2,h3,h4⟩:=zev (c:=c) (c2:=c2) ty E c xs news k6 k1 hsrc hl h1 (by omega) h63 hbytes;obtain ⟨a',c',rfl,j1,j2,j3,j4⟩:=z05 h3;refine ⟨_,w',Nb,h2,⟨h3.1,hone,a',c',rfl,j1,j2,j3,fun b off e _=>⟨.inl (.inr ⟨(j4 b off e).2.2.1,(j4 b off e).2.1⟩),(j4 b off e).2.2.2⟩,.inr ⟨z3b h3 (Nat.zero_le _),fun g hg=>?_⟩⟩,(Keeps.refl Nb w).grown h4 (fun k h=>by cases h),fun k h=>h.elim⟩;rcases a' with _ | ⟨b,off,sp⟩
  ·cases hg
  ·cases hg;have hs:=spot h3;subst hs;exact .inr ⟨(j4 b off rfl).2.2.1,(j4 b off rfl).2.1⟩
 ·
  obtain ⟨v',w',h2,h3,h4,h5⟩:=z2l (c:=c2) ty E 0 n xs news x hsrc hl h1 h63 hbytes (Nat.zero_le _);obtain ⟨a',c',rfl,j1,j2,j3,j4⟩:=z05 h3;have hF':∀ g,(Value.slice a' (n + m) c').ownBlock=some g -> Up F w w' g:=fun g hg=>by
   rcases h5 with h5 | h5
   ·rw [h5] at hg;exact .inl (y g hg)
   ·
    rw [h5] at hg;cases hg;refine .inr ⟨Nat.le_refl _,?_⟩;rcases a' with _ | ⟨b,off,sp⟩
    ·cases h5
    ·
     have hs:=spot h3;subst hs;have:=(j4 b off rfl)
     rw [h5] at this;have e:=this.1;cases e;exact this.2.1
  refine ⟨_,w',fun k=>(Value.slice a n c).ownBlock=some k,h2,⟨h3.1,hone,a',c',rfl,j1,j2,j3,fun b off e _=>⟨.inl (hF' b (j4 b off e).1),(j4 b off e).2.2.2⟩,.inr ⟨h3,hF'⟩⟩,(Keeps.refl _ w).grown h4 (fun k h _=>h),fun k hk=>⟨y k hk,?_⟩⟩;obtain ⟨a2,c3,e3,-,-,-,j5⟩:=z05 x;cases e3;rcases a with _ | ⟨b,off,sp⟩
  ·cases hk
  ·have hs:=spot x;subst hs;cases hk;exact (j5 b off rfl).2.2.2
end
section
variable {t e:TypeId} {size bytes:Nat} {z:Value}
theorem z6j (E:ElemT P t e size bytes z) {parts:Array (Nat × Value)} {vs:List Value} (hp:parts.toList=(List.range' 0 vs.length).zip vs) (hs:∀ v ∈ vs,v.cells.size=size) (hn:vs.length * size <= 16777216) (w:World) :
  (Instr.buildSlice t vs.length parts).run P w=.ok (.slice (some ⟨w.heap.size,0,none⟩) vs.length vs.length) (w.alloc (.cells (vs.flatMap (·.cells.toList)).toArray e)):=by
 obtain ⟨i,hi,h4⟩:=Option.map_eq_some_iff.1 E.hi;simp only [Prod.mk.injEq] at h4;obtain ⟨hz,hsz,hby⟩:=h4;have hlen:∀ (vs:List Value),(∀ v ∈ vs,v.cells.size=size) -> (vs.map (·.cells.size)).sum=vs.length * size:=by
  intro vs
  induction vs with
  | nil=>simp
  | cons v vs ih =>
   intro h;rw [List.map_cons,List.sum_cons,ih (fun v hv=>h v (by simp [hv])),h v (by simp),List.length_cons,Nat.succ_mul];omega
 have hf:∀ (B:Array Value),B.size=vs.length * size -> Instr.fill (fun i=>some (i * size,size)) B parts.toList=some (vs.flatMap (·.cells.toList)).toArray:=by
  intro B hB;rw [hp]
  have:=z8c (fun i=>some (i * size,size)) vs 0 [] B.toList (fun j v hj=>by
   have hv:=hs v (List.mem_of_getElem? hj);have hl:=hlen (vs.take j) (fun v hv=>hs v (List.mem_of_mem_take hv))
   rw [hl,hv,List.length_take,Nat.min_eq_left (Nat.le_of_lt (List.getElem?_eq_some_iff.1 hj).1)];simp) (by rw [hlen vs hs];simpa using hB.symm)
  simpa using this
 have hsz2:¬ vs.length * size > 2 ^ 24:=by omega
 unfold Instr.buildSlice;by_cases h0:vs.length * size=0
 ·simp [run_underlying E.ht,sizeOf,typeInfo,hi,hsz,hsz2,h0,Result.andThen];rw [hf (Array.map (fun x=>default) (Array.range 0)) (by simp [h0])];rfl
 ·
  have hzv:(zeroValue e).run P w=.ok z w:=by simp [zeroValue,typeInfo,hi,hz]
  simp [run_underlying E.ht,sizeOf,typeInfo,hi,hsz,hsz2,h0,Result.andThen,hzv];rw [hf _ (by simp)];rfl
end
section
variable {ops:Array Oper} {rest:List Oper} {dst:Option Tmp} {s x:Operand} {t ty e:TypeId} {pos:String} {aft:Array Edge} {gd:Option (Nat × Bool)} {a:Act} {Q:Exit -> Act -> World -> Prop} {size bytes:Nat} {z:Value}
theorem z49 (E:ElemT P t e size bytes z) {m:Nat} {parts:Array (Nat × Operand)} (vs:List Value) (hm:m=vs.length) (hp:(parts.map fun (i,x)=>(i,a.eval x)).toList=(List.range' 0 vs.length).zip vs) (hs:∀ v ∈ vs,v.cells.size=size)
  (hn:vs.length * size <= 16777216):(execOp a.eval ⟨dst,.buildSlice t m parts,ty,pos,aft,gd⟩).run P w=.ok (.value (.slice (some ⟨w.heap.size,0,none⟩) m m)) (w.alloc (.cells (vs.flatMap (·.cells.toList)).toArray e)):=by
 subst hm;unfold execOp;simp only [Sem.run_bind,z6j E hp hs hn,Result.andThen_ok,Sem.run_pure]
theorem z4s {v v':Value} {ad:Option Addr} {m c:Nat} (hs:a.eval s=v) (hx:a.eval x=.slice ad m c) (h:(Builtin.append_ #[t,t] ty #[v,.slice ad m c]).run P w=.ok v' w') :
  (execOp a.eval ⟨dst,.call ⟨.builtin .append,#[s,x],#[t,t]⟩,ty,pos,aft,gd⟩).run P w=.ok (.value v') w':=by
 unfold execOp;simp only [resolve,invoke,builtin,Sem.run_bind,Sem.run_pure,Result.andThen_ok,List.map_toArray,List.map_cons,List.map_nil,hs,hx,h]
end
end Go.Lk
end
section
namespace Go.Lk
open Go.RowKit
section
variable {P:Program} {ops:Array Oper} {Q:Exit -> Act -> World -> Prop} {md:Region.Mode} {S:World -> Prop} {k:Nat}
def stopK (k:Nat) (L:Array Bool):Bool:=(List.range k).all fun j=>L.getD j true
theorem z4u {L:Array Bool} {j:Nat} (hj:j < k) (h:L.getD j true=false):¬ stopK k L=true:=by
 intro hs;unfold stopK at hs;have:=List.all_eq_true.1 hs j (List.mem_range.2 hj);rw [h] at this;cases this
def wpAnyT (P:Program) (md:Region.Mode) (ops:Array Oper) (Q:Exit -> Act -> World -> Prop) (S:World -> Prop) (k:Nat):Nat -> Array Bool -> Act -> World -> Prop
 | 0,L,a,w=>wpAny P md ops Q 0 L a w
 | fuel + 1,L,a,w=>if stopK k L=true then wpAny P md ops Q (fuel + 1) L a w else
  (Region.ready md ops L=[] -> Q .normal a w) /\ ∀ i ∈ Region.ready md ops L,wpOp P ops Q i (fun a' w'=>S w' /\ wpAnyT P md ops Q S k fuel (L.setIfInBounds i true) a' w') a w
theorem z47:∀ (fuel:Nat) (L:Array Bool) (a:Act) (w:World),wpAnyT P md ops Q S k fuel L a w -> wpAny P md ops Q fuel L a w
 | 0,_,_,_,h=>h
 | fuel + 1,L,a,w,h=>by
  unfold wpAnyT at h;split at h
  ·exact h
  ·exact ⟨h.1,fun i hi=>wpOp_mono (fun a' w' h'=>z47 fuel _ a' w' h'.2) (h.2 i hi)⟩
theorem z98 {i:Nat} {oi:Oper} {v:Value} (hi:ops[i]?=some oi) (hik:i < k) (hdep:∀ j oj,ops[j]?=some oj -> k <= j -> ∃ e ∈ oj.after,Region.binds md e=true /\ e.on=i)
  (hsel:∀ (j:Nat) (o:Oper) cs b,ops[j]?=some o -> o.op ≠ .select cs b) (hQ:∀ c a w,Q (.panic c) (a.put oi.dst v) w -> Q (.panic c) a w) :
  ∀ (fuel:Nat) (L:Array Bool) (a:Act) (w:World),
   (∀ j oj,ops[j]?=some oj -> j ≠ i -> L.getD j true=false -> (∀ e ∈ oj.after,Region.binds md e=true -> e.on ≠ i) -> oi.apart ops oj=true) ->
   i ∈ Region.ready md ops L -> YieldsIf P ops S oi v a -> S w ->
   wpAnyT P md ops Q S k fuel (L.setIfInBounds i true) (a.put oi.dst v) w -> wpAnyT P md ops Q S k (fuel + 1) L a w:=by
 intro fuel
 induction fuel with
 | zero =>
  intro L a w _ hr hy hS H;unfold wpAnyT;rw [if_neg (z4u hik (mem_ready.1 hr).1)];refine ⟨fun h=>(by rw [h] at hr;cases hr),fun j hj=>?_⟩;by_cases hji:j=i
  ·subst hji;exact hy.wpOp hi hS ⟨hS,H⟩
  ·have:=ready_mono hj hji;have H':wpAny P md ops Q 0 (L.setIfInBounds i true) (a.put oi.dst v) w:=H;rw [H'.1] at this;cases this
 | succ fuel ih =>
  intro L a w hfree hr hy hS H;unfold wpAnyT;rw [if_neg (z4u hik (mem_ready.1 hr).1)];refine ⟨fun h=>(by rw [h] at hr;cases hr),fun j hj=>?_⟩;by_cases hji:j=i
  ·subst hji;exact hy.wpOp hi hS ⟨hS,H⟩
  ·
   obtain ⟨hjun,oj,hoj,hall⟩:=mem_ready.1 hj;have hiun:L.getD i false=false:=by
    have h0:=(mem_ready.1 hr).1;rcases Nat.lt_or_ge i L.size with h' | h'
    ·simp [h'] at h0 ⊢;exact h0
    ·simp [Array.getElem?_eq_none h'] at h0
   have hnot:∀ e ∈ oj.after,Region.binds md e=true -> e.on ≠ i:=fun e he hb heq=>by
    have h1:=hall e he hb;rw [heq,hiun] at h1;cases h1
   have hjk:j < k:=by
    rcases Nat.lt_or_ge j k with h | h
    ·exact h
    ·obtain ⟨e,he,hb,heq⟩:=hdep j oj hoj h;exact absurd heq (hnot e he hb)
   have hns:¬ stopK k (L.setIfInBounds i true)=true:=z4u hjk (by rw [getD_set_ne true (Ne.symm hji)];exact hjun);unfold wpAnyT at H;rw [if_neg hns] at H;have h1:=H.2 j (ready_mono hj hji);have h2:=wpOp_putIf hoj (hfree j oj hoj hji hjun hnot) (fun cs b=>hsel i oi cs b hi) (fun cs b=>hsel j oj cs b hoj) hQ hy h1
   have hfree':∀ k' ok,ops[k']?=some ok -> k' ≠ i -> (L.setIfInBounds j true).getD k' true=false ->
     (∀ e ∈ ok.after,Region.binds md e=true -> e.on ≠ i) -> oi.apart ops ok=true:=fun k' ok hk hki hun hno=>by
    refine hfree k' ok hk hki ?_ hno;by_cases hjk:j=k'
    ·subst hjk;exact hjun
    ·rw [getD_set_ne true hjk] at hun;exact hun
   refine wpOp_mono (fun a' w' h3=>⟨h3.2.1,ih (L.setIfInBounds j true) a' w' hfree' (ready_mono hr (Ne.symm hji)) h3.1 h3.2.1 ?_⟩) h2;rw [Array.setIfInBounds_comm _ _ hji];exact h3.2.2
def waitB (md:Region.Mode) (ops:Array Oper) (k i:Nat):Bool:=(ops.toList.drop k).all fun o=>o.after.any fun e=>Region.binds md e && (e.on == i)
theorem zbr {i:Nat} (h:waitB md ops k i=true) (j:Nat) (oj:Oper) (hj:ops[j]?=some oj) (hk:k <= j):∃ e ∈ oj.after,Region.binds md e=true /\ e.on=i:=by
 unfold waitB at h;have hm:oj ∈ ops.toList.drop k:=by
  rw [<- Array.getElem?_toList] at hj;refine List.mem_of_getElem? (i:=j - k) ?_;rw [List.getElem?_drop,show k + (j - k)=j by omega];exact hj
 have:=List.all_eq_true.1 h oj hm;rw [Array.any_eq_true] at this;obtain ⟨x,hx,h2⟩:=this;simp only [Bool.and_eq_true,beq_iff_eq] at h2;exact ⟨_,Array.getElem_mem hx,h2.1,h2.2⟩
def Lst (n:Nat) (plan:List Nat) (m:Nat):Array Bool:=(plan.take m).foldl (fun L i=>L.setIfInBounds i true) (Array.replicate n false)
theorem Lst_succ {n m i:Nat} {plan:List Nat} (h:plan[m]?=some i):Lst n plan (m + 1)=(Lst n plan m).setIfInBounds i true:=by
 obtain ⟨hm,h⟩:=List.getElem?_eq_some_iff.1 h;unfold Lst;rw [List.take_succ_eq_append_getElem hm,List.foldl_append,h];rfl
structure WT (P:Program) (ops:Array Oper) (Q:Exit -> Act -> World -> Prop) (S:World -> Prop) (k n:Nat) (plan:List Nat) (m:Nat) (a:Act) (w:World):Prop where
 h:wpAnyT P .any ops Q S k (n - m) (Lst n plan m) a w
structure WP (P:Program) (ops:Array Oper) (Q:Exit -> Act -> World -> Prop) (n:Nat) (plan:List Nat) (m:Nat) (a:Act) (w:World):Prop where
 h:wpAny P .any ops Q (n - m) (Lst n plan m) a w
def mayTake (ops:Array Oper) (k n:Nat) (plan:List Nat) (m i:Nat):Bool :=
 decide (m < n) && (plan[m]? == some i) && (decide (i < k) && waitB .any ops k i && (Region.noSelect ops && (Region.free .any ops (Lst n plan m) i && (Region.ready .any ops (Lst n plan m)).contains i)))
def mayOnly (ops:Array Oper) (k n:Nat) (plan:List Nat) (m i:Nat):Bool :=
 decide (m < n) && (plan[m]? == some i) && ((Region.ready .any ops (Lst n plan m) == [i]) && !stopK k (Lst n plan m))
def mayOnlyP (ops:Array Oper) (n:Nat) (plan:List Nat) (m i:Nat):Bool :=
 decide (m < n) && (plan[m]? == some i) && (Region.ready .any ops (Lst n plan m) == [i])
variable {n m:Nat} {plan:List Nat}
theorem WT.yields (i:Nat) {oi:Oper} {v:Value} {a:Act} {w:World} (hi:ops[i]?=some oi) (hok:mayTake ops k n plan m i=true) (hQ:∀ c a w,Q (.panic c) (a.put oi.dst v) w -> Q (.panic c) a w)
  (hy:YieldsIf P ops S oi v a) (hS:S w) (h:WT P ops Q S k n plan (m + 1) (a.put oi.dst v) w):WT P ops Q S k n plan m a w:=by
 unfold mayTake at hok;simp only [Bool.and_eq_true,decide_eq_true_eq,beq_iff_eq] at hok;obtain ⟨⟨h0,hp⟩,⟨h1,h2⟩,h3,h4,h5⟩:=hok;have h:=h.h;rw [Lst_succ hp] at h;refine ⟨?_⟩;rw [show n - m=(n - (m + 1)) + 1 by omega];exact z98 hi h1 (zbr h2) (Region.noSelect_spec h3) hQ _ _ a w (Region.free_spec hi h4) (by simpa using h5) hy hS h
theorem WT.take (i:Nat) {oi:Oper} {v:Value} {a:Act} {w:World} (hi:ops[i]?=some oi) (hok:mayTake ops k n plan m i=true) (hQ:∀ c a w,Q (.panic c) (a.put oi.dst v) w -> Q (.panic c) a w)
  (hw:Region.wanted oi (yielded ops a.tmps)=true) (hy:∀ w,S w -> (execOp a.eval oi).run P w=.ok (.value v) w) (hS:S w) (h:WT P ops Q S k n plan (m + 1) (a.put oi.dst v) w):WT P ops Q S k n plan m a w :=
 WT.yields i hi hok hQ (.inl ⟨hw,hy⟩) hS h
theorem WT.one (i:Nat) {oi:Oper} {a:Act} {w:World} (hi:ops[i]?=some oi) (hok:mayOnly ops k n plan m i=true) (hw:Region.wanted oi (yielded ops a.tmps)=true)
  (h:oi.wp P a w (fun a' w'=>S w' /\ WT P ops Q S k n plan (m + 1) a' w') Q):WT P ops Q S k n plan m a w:=by
 unfold mayOnly at hok;simp only [Bool.and_eq_true,decide_eq_true_eq,beq_iff_eq,Bool.not_eq_true'] at hok;obtain ⟨⟨h0,hp⟩,hr,hk⟩:=hok;have h':oi.wp P a w (fun a' w'=>S w' /\ wpAnyT P .any ops Q S k (n - (m + 1)) ((Lst n plan m).setIfInBounds i true) a' w') Q:=Oper.wp_mono (fun a' w' hh=>⟨hh.1,Lst_succ hp ▸ hh.2.h⟩) h;refine ⟨?_⟩;rw [show n - m=(n - (m + 1)) + 1 by omega];unfold wpAnyT;rw [if_neg (by rw [hk];exact Bool.false_ne_true)];refine ⟨fun h0=>(by rw [hr] at h0;cases h0),fun j hj=>?_⟩;rw [hr] at hj;have e:j=i:=by simpa using hj
 subst e;unfold wpOp;simp only [hi,hw,if_true];exact .inl h'
theorem WT.only (i:Nat) {oi:Oper} {v:Value} {a:Act} {w w':World} (hi:ops[i]?=some oi) (hok:mayOnly ops k n plan m i=true) (hw:Region.wanted oi (yielded ops a.tmps)=true)
  (hy:(execOp a.eval oi).run P w=.ok (.value v) w') (hS:S w') (h:WT P ops Q S k n plan (m + 1) (a.put oi.dst v) w'):WT P ops Q S k n plan m a w :=
 WT.one i hi hok hw (by unfold Oper.wp;rw [hy];exact ⟨hS,h⟩)
theorem WT.call (i:Nat) {oi:Oper} {f:FuncId} {args:Array Value} {a:Act} {w w':World} {R:Ending -> World -> Prop} (hi:ops[i]?=some oi) (hok:mayOnly ops k n plan m i=true) (hw:Region.wanted oi (yielded ops a.tmps)=true)
  (hy:(execOp a.eval oi).run P w=.ok (.enter f args) w') (hc:Calls P f args w' R) (h:∀ e w'',R e w'' -> ∃ v,e=.returned v /\ S w'' /\ WT P ops Q S k n plan (m + 1) (a.put oi.dst v) w''):WT P ops Q S k n plan m a w :=
 WT.one i hi hok hw (by unfold Oper.wp;rw [hy];exact hc.mono fun e w'' hR=>by obtain ⟨v,rfl,h1,h2⟩:=h e w'' hR;exact ⟨h1,h2⟩)
theorem WT.onlyE (i:Nat) {oi:Oper} {Φ:Value -> World -> Prop} {a:Act} {w:World} (hi:ops[i]?=some oi) (hok:mayOnly ops k n plan m i=true) (hw:Region.wanted oi (yielded ops a.tmps)=true)
  (hy:∃ v w',(execOp a.eval oi).run P w=.ok (.value v) w' /\ Φ v w') (h:∀ v w',Φ v w' -> S w' /\ WT P ops Q S k n plan (m + 1) (a.put oi.dst v) w'):WT P ops Q S k n plan m a w:=by
 obtain ⟨v,w',h1,h2⟩:=hy;exact WT.only i hi hok hw h1 (h v w' h2).1 (h v w' h2).2
theorem WT.onlySkipE (i:Nat) {oi:Oper} {Φ:World -> Prop} {a:Act} {w:World} (hi:ops[i]?=some oi) (hok:mayOnly ops k n plan m i=true) (hw:Region.wanted oi (yielded ops a.tmps)=true)
  (hy:∃ w',(execOp a.eval oi).run P w=.ok .skip w' /\ Φ w') (h:∀ w',Φ w' -> S w' /\ WT P ops Q S k n plan (m + 1) (a.put oi.dst undef) w'):WT P ops Q S k n plan m a w:=by
 obtain ⟨w',h1,h2⟩:=hy;exact WT.one i hi hok hw (by unfold Oper.wp;rw [h1];exact h w' h2)
theorem WT.stop {a:Act} {w:World} (hk:stopK k (Lst n plan m)=true) (h:WP P ops Q n plan m a w):WT P ops Q S k n plan m a w:=by
 have h:=h.h;refine ⟨?_⟩;generalize n - m=fuel at *;rcases fuel with _ | fuel
 ·exact h
 ·unfold wpAnyT;rw [if_pos hk];exact h
theorem WT.region {id:Nat} {a:Act} {w:World} (S:World -> Prop) (k n:Nat) (plan:List Nat) (hm:P.follows .mixedOrders=true) (hn:ops.size=n) (h:WT P ops Q S k n plan 0 a w.drew):(Code.region id ops true).wp P Q a w:=by
 subst hn;exact wp_region_any hm (z47 _ _ _ _ h.h)
theorem WP.one (i:Nat) {oi:Oper} {a:Act} {w:World} (hi:ops[i]?=some oi) (hok:mayOnlyP ops n plan m i=true) (hw:Region.wanted oi (yielded ops a.tmps)=true)
  (h:oi.wp P a w (fun a' w'=>WP P ops Q n plan (m + 1) a' w') Q):WP P ops Q n plan m a w:=by
 unfold mayOnlyP at hok;simp only [Bool.and_eq_true,decide_eq_true_eq,beq_iff_eq] at hok;obtain ⟨⟨h0,hp⟩,hr⟩:=hok;have h':oi.wp P a w (fun a' w'=>wpAny P .any ops Q (n - (m + 1)) ((Lst n plan m).setIfInBounds i true) a' w') Q:=Oper.wp_mono (fun a' w' hh=>Lst_succ hp ▸ hh.h) h;refine ⟨?_⟩;rw [show n - m=(n - (m + 1)) + 1 by omega];refine ⟨fun h0=>(by rw [hr] at h0;cases h0),fun j hj=>?_⟩;rw [hr] at hj;have e:j=i:=by simpa using hj
 subst e;unfold wpOp;simp only [hi,hw,if_true];exact .inl h'
theorem WP.only (i:Nat) {oi:Oper} {v:Value} {a:Act} {w w':World} (hi:ops[i]?=some oi) (hok:mayOnlyP ops n plan m i=true) (hw:Region.wanted oi (yielded ops a.tmps)=true)
  (hy:(execOp a.eval oi).run P w=.ok (.value v) w') (h:WP P ops Q n plan (m + 1) (a.put oi.dst v) w'):WP P ops Q n plan m a w :=
 WP.one i hi hok hw (by unfold Oper.wp;rw [hy];exact h)
theorem WP.onlySkipE (i:Nat) {oi:Oper} {Φ:World -> Prop} {a:Act} {w:World} (hi:ops[i]?=some oi) (hok:mayOnlyP ops n plan m i=true) (hw:Region.wanted oi (yielded ops a.tmps)=true)
  (hy:∃ w',(execOp a.eval oi).run P w=.ok .skip w' /\ Φ w') (h:∀ w',Φ w' -> WP P ops Q n plan (m + 1) (a.put oi.dst undef) w'):WP P ops Q n plan m a w:=by
 obtain ⟨w',h1,h2⟩:=hy;exact WP.one i hi hok hw (by unfold Oper.wp;rw [h1];exact h w' h2)
theorem WP.done {a:Act} {w:World} (hr:(Region.ready .any ops (Lst n plan m) == [])=true) (h:Q .normal a w):WP P ops Q n plan m a w:=by
 refine ⟨?_⟩;generalize n - m=fuel;have hr':Region.ready .any ops (Lst n plan m)=[]:=by simpa using hr
 rcases fuel with _ | fuel
 ·exact ⟨hr',h⟩
 ·exact ⟨fun _=>h,by rw [hr'];simp⟩
end
section
variable {P:Program} {w:World} {dst:Option Tmp} {s x:Operand} {t ty T:TypeId} {pos:String} {aft:Array Edge} {gd:Option (Nat × Bool)} {a:Act} {n g i:Nat} {cs ds:Array Value}
theorem zes {z:Value} (hz:(P.info? t).map (·.zero)=some (some z)):(execOp a.eval ⟨dst,.alloc t,ty,pos,aft,gd⟩).run P w=.ok (.value (.pointer (some ⟨w.heap.size,0,none⟩))) (w.alloc (.cells z.cells t)):=by
 obtain ⟨i,hi,h2⟩:=Option.map_eq_some_iff.1 hz;unfold execOp;simp only [Instr.alloc,zeroValue,typeInfo,newVar,newRow,Sem.run_bind,Sem.run_pure,Result.andThen_ok,Sem.run,newObj];simp [hi,h2]
theorem zet {off:Nat} {v:Value} (A:(P.info? t).map (·.size)=some n) (hs:a.eval s=.pointer (some ⟨g,off,none⟩)) (hx:a.eval x=v) (hg:w.heap[g]?=some (.cells cs T (0,0))) (hd:v.cells.size=n) (hn:off + n <= cs.size) (h1:∀ u ∈ v.cells.toList,u.oneCell'=true) :
  (execOp a.eval ⟨dst,.store t s x,ty,pos,aft,gd⟩).run P w=.ok .skip (w.setRow g (splice cs v.cells off)):=by
 obtain ⟨i,hi,h2⟩:=Option.map_eq_some_iff.1 A;have hst:=run_storeCells_at P g off T v.cells.toList 0 cs w hg (by simpa [hd] using hn) h1;simp only [Nat.add_zero,Array.length_toList] at hst;unfold execOp;simp [hs,hx,Instr.storeAt,Instr.sureAddr,storeVar,Go.sizeOf,typeInfo,hi,h2,hd,hst,splice]
theorem zb {off:Nat} {v:Value} (A:(P.underlying t).map (fun d=>match d with | .struct _ | .array _ _=>true | _=>false)=some false) (hx:a.eval x=.pointer (some ⟨g,off,none⟩)) (hc:w.cell? ⟨g,off,none⟩=some v) :
  (execOp a.eval ⟨dst,.load t x,ty,pos,aft,gd⟩).run P w=.ok (.value v) w:=by
 obtain ⟨d,hd,h2⟩:=Option.map_eq_some_iff.1 A;have hagg:(Go.isAgg t).run P w=.ok false w:=by
  unfold Go.isAgg;rw [Sem.run_bind,run_underlying hd w];cases d <;> simp_all
 unfold execOp;simp [hx,Instr.loadAt,Instr.sureAddr,loadVar,Sem.run_bind,hagg,hc]
theorem zfk {y z:Operand} {u1 u2 u3 v:Value} (hx:a.eval x=u1) (hy:a.eval y=u2) (hz:a.eval z=u3) (h:(Instr.build t #[(0,u1),(1,u2),(2,u3)]).run P w=.ok v w) :
  (execOp a.eval ⟨dst,.build t #[(0,x),(1,y),(2,z)],ty,pos,aft,gd⟩).run P w=.ok (.value v) w:=by
 unfold execOp;simp [Sem.run_bind,hx,hy,hz,h,Result.andThen_ok]
def IsNew (w:World) (o:Obj) (v:Value) (w':World):Prop:=∃ g,v=.pointer (some ⟨g,0,none⟩) /\ NewAt w w' g o
theorem z2y {z:Value} (hz:(P.info? t).map (·.zero)=some (some z)):∃ v w',(execOp a.eval ⟨dst,.alloc t,ty,pos,aft,gd⟩).run P w=.ok (.value v) w' /\ IsNew w (.cells z.cells t) v w' :=
 ⟨_,_,zes hz,_,rfl,newAt _ _⟩
theorem zd {off:Nat} {v:Value} (A:(P.info? t).map (·.size)=some n) (hs:a.eval s=.pointer (some ⟨g,off,none⟩)) (hx:a.eval x=v) (hg:w.heap[g]?=some (.cells cs T (0,0))) (hd:v.cells.size=n) (hn:off + n <= cs.size) (h1:∀ u ∈ v.cells.toList,u.oneCell'=true) :
  ∃ w',(execOp a.eval ⟨dst,.store t s x,ty,pos,aft,gd⟩).run P w=.ok .skip w' /\ SetAt w w' g (.cells (splice cs v.cells off) T (0,0)):=⟨_,zet A hs hx hg hd hn h1,zdb hg⟩
def IsRowNew (w:World) (m:Nat) (o:Obj) (v:Value) (w':World):Prop:=∃ g,v=.slice (some ⟨g,0,none⟩) m m /\ NewAt w w' g o
theorem zl {e:TypeId} {size bytes:Nat} {z:Value} (E:ElemT P t e size bytes z) {m:Nat} {parts:Array (Nat × Operand)} (vs:List Value) (hm:m=vs.length) (hp:(parts.map fun (i,x)=>(i,a.eval x)).toList=(List.range' 0 vs.length).zip vs) (hs:∀ v ∈ vs,v.cells.size=size)
  (hn:vs.length * size <= 16777216):∃ v w',(execOp a.eval ⟨dst,.buildSlice t m parts,ty,pos,aft,gd⟩).run P w=.ok (.value v) w' /\ IsRowNew w m (.cells (vs.flatMap (·.cells.toList)).toArray e) v w' :=
 ⟨_,_,z49 E vs hm hp hs hn,_,rfl,newAt _ _⟩
theorem z0y {e:TypeId} {size bytes:Nat} {z v:Value} (E:ElemT P t e size bytes z) (hx:a.eval x=v) (hs:v.cells.size=size) (hn:size <= 16777216) :
  ∃ v' w',(execOp a.eval ⟨dst,.buildSlice t 1 #[(0,x)],ty,pos,aft,gd⟩).run P w=.ok (.value v') w' /\ IsRowNew w 1 (.cells v.cells e) v' w':=by
 have:=zl (P:=P) (w:=w) (dst:=dst) (ty:=ty) (pos:=pos) (aft:=aft) (gd:=gd) (a:=a) (m:=1) (parts:=#[(0,x)]) E [v] rfl (by simp [hx,List.range']) (by simpa using hs) (by simpa using hn);simpa using this
def IsPush (F R:Nat -> Prop) (e size:Nat) (n:Nat) (xs:List Value) (w:World) (v:Value) (w':World):Prop:=RowS w' (Up F w w') R e size v n xs /\ ∃ S,Keeps S w w' /\ ∀ k,S k -> F k /\ IsT w e k
theorem z1w {F R:Nat -> Prop} {e:TypeId} {size bytes:Nat} {z v:Value} (E:ElemT P t e size bytes z) {ad:Option Addr} {m c2 n:Nat} {xs news:List Value} (hv:RowS w F R e size v n xs) (hs:a.eval s=v) (hx:a.eval x=.slice ad m c2)
  (hsrc:Has w ad news) (hl:news.length=m * size) (h1:∀ u ∈ news,u.oneCell'=true) (hm:0 < m) (h63:n + m <= maxLen) (hbytes:(n + m) * bytes <= 140737488355328) :
  ∃ v' w',(execOp a.eval ⟨dst,.call ⟨.builtin .append,#[s,x],#[t,t]⟩,ty,pos,aft,gd⟩).run P w=.ok (.value v') w' /\ IsPush F R e size (n + m) (xs ++ news) w v' w':=by
 obtain ⟨v',w',S,h2,h3,h4,h5⟩:=zew (P:=P) (c2:=c2) ty E hv hsrc hl h1 hm h63 hbytes;exact ⟨v',w',z4s hs hx h2,h3,S,h4,h5⟩
end
section
variable {P:Program} {ops:Array Oper} {rest:List Oper} {a:Act} {Q:Exit -> Act -> World -> Prop} {w w':World} {o:Oper}
theorem zi {Φ:Value -> World -> Prop} (hw:Region.wanted o (yielded ops a.tmps)=true) (hy:∃ v w',(execOp a.eval o).run P w=.ok (.value v) w' /\ Φ v w') (h:∀ v w',Φ v w' -> wpList P ops Q rest (a.put o.dst v) w'):wpList P ops Q (o :: rest) a w:=by
 obtain ⟨v,w',h1,h2⟩:=hy;exact zw hw h1 (h v w' h2)
theorem zc {Φ:World -> Prop} (hw:Region.wanted o (yielded ops a.tmps)=true) (hy:∃ w',(execOp a.eval o).run P w=.ok .skip w' /\ Φ w') (h:∀ w',Φ w' -> wpList P ops Q rest (a.put o.dst undef) w'):wpList P ops Q (o :: rest) a w:=by
 obtain ⟨w',h1,h2⟩:=hy;refine wpList_step fun K hK=>?_;rw [if_pos hw];unfold Oper.wp;rw [h1];exact hK _ _ (h w' h2)
end
end Go.Lk
end
section
namespace Go.Lk
variable {P:Program} {ops:Array Oper} {Q:Exit -> Act -> World -> Prop} {S:World -> Prop} {k:Nat} {n m:Nat} {plan:List Nat}
theorem WT.t (i:Nat) {oi:Oper} {v:Value} {a a':Act} {m':Nat} {w:World} (hi:ops[i]?=some oi:=by simp only [qi];rfl) (hok:mayTake ops k n plan m i=true:=by kernel_rfl) (hQ:∀ c a w,Q (.panic c) (a.put oi.dst v) w -> Q (.panic c) a w:=by exact fun _ _ _ h=>h)
    (hw:Region.wanted oi (yielded ops a.tmps)=true:=by rfl) (y:∀ w,S w -> (execOp a.eval oi).run P w=.ok (.value v) w) (s:S w) (ha:a.put oi.dst v=a':=by simp only [Nat.reduceAdd,qn];rfl) (hm:m + 1=m':=by simp only [Nat.reduceAdd];rfl) (h:WT P ops Q S k n plan m' a' w):WT P ops Q S k n plan m a w:=by
  subst ha;subst hm;exact WT.take i hi hok hQ hw y s h
theorem WT.o (i:Nat) {oi:Oper} {Φ:Value -> World -> Prop} {a:Act} {w:World} (hi:ops[i]?=some oi:=by simp only [qi];rfl) (hok:mayOnly ops k n plan m i=true:=by kernel_rfl) (hw:Region.wanted oi (yielded ops a.tmps)=true:=by rfl)
    (y:∃ v w',(execOp a.eval oi).run P w=.ok (.value v) w' /\ Φ v w') (h:∀ v w',Φ v w' -> S w' /\ WT P ops Q S k n plan (m + 1) (a.put oi.dst v) w'):WT P ops Q S k n plan m a w:=WT.onlyE i hi hok hw y h
theorem WP.o (i:Nat) {oi:Oper} {v:Value} {a a':Act} {m':Nat} {w w':World} (hi:ops[i]?=some oi:=by simp only [qi];rfl) (hok:mayOnlyP ops n plan m i=true:=by kernel_rfl) (hw:Region.wanted oi (yielded ops a.tmps)=true:=by rfl)
    (y:(execOp a.eval oi).run P w=.ok (.value v) w') (ha:a.put oi.dst v=a':=by simp only [Nat.reduceAdd,qn];rfl) (hm:m + 1=m':=by simp only [Nat.reduceAdd];rfl) (h:WP P ops Q n plan m' a' w'):WP P ops Q n plan m a w:=by
  subst ha;subst hm;exact WP.only i hi hok hw y h
end Go.Lk
end
section
namespace Go.Lk
open Go.RowKit
section
variable {P:Program} {ops:Array Oper} {Q:Exit -> Act -> World -> Prop} {S:World -> Prop} {k n m:Nat} {plan:List Nat}
def mayFork (ops:Array Oper) (k n:Nat) (plan plan2:List Nat) (m i j:Nat):Bool :=
 decide (m < n) && (plan[m]? == some i) && ((plan2[m]? == some j) && (plan2.take m == plan.take m) && ((Region.ready .any ops (Lst n plan m) == [i,j]) && !stopK k (Lst n plan m)))
theorem WT.fork (i j:Nat) (plan2:List Nat) {oi oj:Oper} {a:Act} {w:World} (hi:ops[i]?=some oi) (hj:ops[j]?=some oj) (hok:mayFork ops k n plan plan2 m i j=true)
  (hw:Region.wanted oi (yielded ops a.tmps)=true) (hw2:Region.wanted oj (yielded ops a.tmps)=true)
  (h1:oi.wp P a w (fun a' w'=>S w' /\ WT P ops Q S k n plan (m + 1) a' w') Q) (h2:oj.wp P a w (fun a' w'=>S w' /\ WT P ops Q S k n plan2 (m + 1) a' w') Q):WT P ops Q S k n plan m a w:=by
 unfold mayFork at hok;simp only [Bool.and_eq_true,decide_eq_true_eq,beq_iff_eq,Bool.not_eq_true'] at hok;obtain ⟨⟨h0,hp⟩,⟨hp2,he⟩,hr,hk⟩:=hok;have e0:Lst n plan2 m=Lst n plan m:=by unfold Lst;rw [he]
 have l1:=Lst_succ (n:=n) hp;have l2:=Lst_succ (n:=n) hp2;rw [e0] at l2;have g1:oi.wp P a w (fun a' w'=>S w' /\ wpAnyT P .any ops Q S k (n - (m + 1)) ((Lst n plan m).setIfInBounds i true) a' w') Q:=Oper.wp_mono (fun a' w' hh=>⟨hh.1,l1 ▸ hh.2.h⟩) h1;have g2:oj.wp P a w (fun a' w'=>S w' /\ wpAnyT P .any ops Q S k (n - (m + 1)) ((Lst n plan m).setIfInBounds j true) a' w') Q:=Oper.wp_mono (fun a' w' hh=>⟨hh.1,l2 ▸ hh.2.h⟩) h2;refine ⟨?_⟩;rw [show n - m=(n - (m + 1)) + 1 by omega];unfold wpAnyT;rw [if_neg (by rw [hk];exact Bool.false_ne_true)];refine ⟨fun h0=>(by rw [hr] at h0;cases h0),fun x hx=>?_⟩;rw [hr] at hx;have e:x=i \/ x=j:=by simpa using hx
 rcases e with rfl | rfl
 ·unfold wpOp;simp only [hi,hw,if_true];exact .inl g1
 ·unfold wpOp;simp only [hj,hw2,if_true];exact .inl g2
theorem WT.forkE (i j:Nat) (plan2:List Nat) {oi oj:Oper} {Φ Ψ:Value -> World -> Prop} {a:Act} {w:World} (hi:ops[i]?=some oi) (hj:ops[j]?=some oj) (hok:mayFork ops k n plan plan2 m i j=true)
  (hw:Region.wanted oi (yielded ops a.tmps)=true) (hw2:Region.wanted oj (yielded ops a.tmps)=true)
  (hy:∃ v w',(execOp a.eval oi).run P w=.ok (.value v) w' /\ Φ v w') (hy2:∃ v w',(execOp a.eval oj).run P w=.ok (.value v) w' /\ Ψ v w')
  (h1:∀ v w',Φ v w' -> S w' /\ WT P ops Q S k n plan (m + 1) (a.put oi.dst v) w') (h2:∀ v w',Ψ v w' -> S w' /\ WT P ops Q S k n plan2 (m + 1) (a.put oj.dst v) w'):WT P ops Q S k n plan m a w:=by
 obtain ⟨v,w',e1,f1⟩:=hy;obtain ⟨v2,w2,e2,f2⟩:=hy2;exact WT.fork i j plan2 hi hj hok hw hw2 (by unfold Oper.wp;rw [e1];exact h1 v w' f1) (by unfold Oper.wp;rw [e2];exact h2 v2 w2 f2)
end
section
variable {P:Program} {w wx w':World} {t e:TypeId} {size bytes n:Nat} {z v:Value} {xs news:List Value}
def AppO (wx:World) (e size n:Nat) (xs:List Value) (v:Value) (w':World):Prop:=w'.ownsRow wx.heap.size e size v n xs /\ Keeps Nb wx w'
theorem zgs {a:Act} {dst:Option Tmp} {ty:TypeId} {pos:String} {aft:Array Edge} {gd:Option (Nat × Bool)} {s x:Operand} (E:ElemT P t e size bytes z) {ad:Option Addr} {m c2:Nat} (hk:Keeps Nb wx w) (hown:w.ownsRow wx.heap.size e size v n xs)
  (hs:a.eval s=v) (hx:a.eval x=.slice ad m c2) (hsrc:Has w ad news) (hl:news.length=m * size) (h1:∀ u ∈ news,u.oneCell'=true) (h63:n + m <= maxLen) (hbytes:(n + m) * bytes <= 140737488355328) :
  ∃ v' w',(execOp a.eval ⟨dst,.call ⟨.builtin .append,#[s,x],#[t,t]⟩,ty,pos,aft,gd⟩).run P w=.ok (.value v') w' /\ AppO wx e size (n + m) (xs ++ news) v' w':=by
 obtain ⟨v',w',h2,h3,h4,-⟩:=z2l (P:=P) (c:=c2) ty E wx.heap.size n xs news hown hsrc hl h1 h63 hbytes hk.size;refine ⟨v',w',z4s hs hx h2,h3,hk.grown h4 (fun g hg hlt=>?_)⟩;obtain ⟨ad',c',rfl,-,-,-,hb⟩:=z05 hown;rcases ad' with _ | ⟨b,off,sp⟩
 ·cases hg
 ·
  rcases sp with _ | sp
  ·have:=hb b off rfl;rw [this.1] at hg;cases hg;have:=this.2.2.1;show False;omega
  ·rcases hown.2 with ⟨hv,_⟩ | ⟨_,_,_,hv,_⟩ <;> cases hv
end
end Go.Lk
end
section
namespace Go.Lk
open Go.RowKit
variable {P:Program} {l n:Nat}
theorem z7z {f:FuncId} {args:Array Value} {w:World} {R:Ending -> World -> Prop} (h:Calls P f args w R):CallsIn (Fence.wide.inRound l) n P f args w R :=
 CallsIn.inRound l (callsIn_wide.2 h)
theorem z90 {row:String} {args:Array Value} {w:World} {R:Value -> World -> Prop} (h:Rows P row args w R):RowsIn (Fence.wide.inRound l) n P row args w R :=
 fun c cs _=>let ⟨v,w',r,s⟩:=h c cs;⟨v,w',r,stepsIn_wide.2 s⟩
theorem operIn {o:Oper} {a:Act} {w:World} {K:Act -> World -> Prop} {Q:Exit -> Act -> World -> Prop} (hd:∀ c,o.op ≠ .defer c) (h:o.wp P a w K Q):o.wpIn (Fence.wide.inRound l) n P a w K Q:=by
 unfold Oper.wp at h;refine ⟨fun _ _=>trivial,?_⟩;rw [Oper.semAt_eq _ _ _ hd];generalize (execOp a.eval o).run P w=r at *;cases r with
 | ok x w' =>
  cases x <;> simp only [Oper.upon,Oper.uponIn] at h ⊢ <;> first
   | exact h
   | exact ⟨fun hh=>(by cases hh),z7z h⟩
   | exact ⟨fun hh=>(by cases hh),z90 h⟩
 | halt x w'=>cases x <;> simp only [Oper.upon,Oper.uponIn] at h ⊢ <;> exact h
def noDefer (ops:Array Oper):Bool:=ops.all fun o=>match o.op with | .defer _=>false | _=>true
theorem z66 {ops:Array Oper} (h:noDefer ops=true) {i:Nat} {o:Oper} (hi:ops[i]?=some o):∀ c,o.op ≠ .defer c:=by
 intro c hc;unfold noDefer at h;rw [Array.all_eq_true] at h;obtain ⟨hl,he⟩:=Array.getElem?_eq_some_iff.1 hi;have:=h i hl;rw [he,hc] at this;cases this
theorem anyIn {ops:Array Oper} {md:Region.Mode} {Q:Exit -> Act -> World -> Prop} (hd:noDefer ops=true) (hQ:¬ LetsOut Q):∀ (fuel:Nat) (L:Array Bool) (a:Act) (w:World),wpAny P md ops Q fuel L a w -> wpAnyIn (Fence.wide.inRound l) n P md ops Q fuel L a w
 | 0,_,_,_,h=>h
 | fuel + 1,L,a,w,h=>by
  refine ⟨h.1,fun i hi=>?_⟩;have h2:=h.2 i hi;unfold wpOp at h2;unfold wpOpIn;cases ho:ops[i]? with
  | none=>simp only [ho] at h2 ⊢;exact anyIn hd hQ fuel _ a w h2
  | some o =>
   simp only [ho] at h2 ⊢;split
   ·rename_i hw;rw [if_pos hw] at h2;exact operIn (z66 hd ho) (Oper.wp_mono (fun a' w' h'=>anyIn hd hQ fuel _ a' w' h') (h2.resolve_right fun h=>hQ h.2))
   ·rename_i hw;rw [if_neg hw] at h2;exact ⟨fun _ _=>trivial,anyIn hd hQ fuel _ _ _ h2⟩
theorem listIn {ops:Array Oper} {Q:Exit -> Act -> World -> Prop} (hQ:¬ LetsOut Q):∀ (rest:List Oper) (hd:noDefer rest.toArray=true) (a:Act) (w:World),wpList P ops Q rest a w -> wpListIn (Fence.wide.inRound l) n P ops Q rest a w
 | [],_,_,_,h=>h
 | o :: rest,hd,a,w,h=>by
  have hd1:∀ c,o.op ≠ .defer c:=z66 hd (i:=0) (by simp);have hd2:noDefer rest.toArray=true:=by
   unfold noDefer at hd ⊢;simp only [List.all_toArray,List.all_cons,Bool.and_eq_true] at hd ⊢;exact hd.2
  unfold wpList at h;unfold wpListIn;split
  ·rename_i hw;rw [if_pos hw] at h;exact operIn hd1 (Oper.wp_mono (fun a' w' h'=>listIn hQ rest hd2 a' w' h') (h.resolve_right fun h=>hQ h.2))
  ·rename_i hw;rw [if_neg hw] at h;exact ⟨fun _ _=>trivial,listIn hQ rest hd2 _ _ h⟩
theorem z71 {ops:Array Oper} {C:World -> Prop} {id:Nat} {Q:Exit -> Act -> World -> Prop} {a:Act} {w:World} (hd:noDefer ops=true) (hQ:¬ LetsOut Q) (hm:P.follows .mixedOrders=true) (hB:Region.lexB .any ops=true) (hC:C { w with drawn:=w.drawn + 1 })
  (h:wpQuiet P ops C (fun a'=>∀ w',C w' -> Q .normal a' w') ops.toList a):(Code.region id ops true).wpIn (Fence.wide.inRound l) n P Q a w:=by
 simp only [Region.lexB,Bool.and_eq_true] at hB;refine wpIn_region_any hm (anyIn hd hQ _ _ _ _ (wpAny_of_quiet (Q:=fun a'=>∀ w',C w' -> Q .normal a' w') (fun _ w' hw' h=>h w' hw') _ _ _ _ hC ?_));have:=wpAnyQ_lex (C:=C) (md:=.any) hB.1 ops.toList 0 (Array.replicate ops.size false) a (by simp) (by simpa using hB.2) h;simpa using this
theorem z8x {id:Nat} {Q:Exit -> Act -> World -> Prop} {a:Act} {w:World} {os:List Oper} (hd:noDefer os.toArray=true) (hQ:¬ LetsOut Q) (hm:P.follows .mixedOrders=true) (hB:Region.lexB .any os.toArray=true)
  (h:wpQuiet P os.toArray (fun w'=>∃ u:Sub w,w'=u.wd) (fun a'=>∀ w',(∃ u:Sub w,w'=u.wd) -> Q .normal a' w') os a):(Code.region id os.toArray true).wpIn (Fence.wide.inRound l) n P Q a w :=
 z71 (C:=fun w'=>∃ u:Sub w,w'=u.wd) hd hQ hm hB ⟨⟨_,(Keeps.refl Nb w).drewN 1⟩,rfl⟩ (by simpa using h)
theorem zh {id:Nat} {Q:Exit -> Act -> World -> Prop} {a:Act} {w:World} {os:List Oper} (hd:noDefer os.toArray=true) (hQ:¬ LetsOut Q) (h:wpList P os.toArray Q os a w):(Code.region id os.toArray false).wpIn (Fence.wide.inRound l) n P Q a w :=
 wpIn_region_list (listIn hQ os hd a w h)
theorem WT.regionIn {ops:Array Oper} {Q:Exit -> Act -> World -> Prop} {id m:Nat} {a:Act} {w:World} (S:World -> Prop) (k:Nat) (plan:List Nat) (hd:noDefer ops=true) (hQ:¬ LetsOut Q) (hm:P.follows .mixedOrders=true) (hn:ops.size=m) (h:WT P ops Q S k m plan 0 a w.drew) :
  (Code.region id ops true).wpIn (Fence.wide.inRound l) n P Q a w:=by
 subst hn;exact wpIn_region_any hm (anyIn hd hQ _ _ _ _ (z47 _ _ _ _ h.h))
end Go.Lk
end
section
namespace Go.Lk
open Go.RowKit
variable {P:Program} {n:Nat}
theorem zv (W:World) (l:Nat) (o:Obj):Keeps (·=l) W (W.putObj l o) :=
 ⟨rfl,rfl,rfl,by simp,fun k _ hn=>World.putObj_heap_other hn⟩
def Book (w:World):Nat -> Prop:=fun b=>b=w.heap.size \/ b=w.heap.size + 1
def Iter (P:Program) (n g:Nat) (lb:Array Value) (N:Nat) (Φ:Nat -> Array Value -> World -> Prop) (S:Nat -> Prop) (w:World):Prop :=
 ∀ (l:Nat) (J:Nat -> World -> Prop) (Jx:World -> Prop) (W:World),Keeps Nb w W -> w.heap.size + 2 <= W.heap.size ->
  (∀ i A B,J i A -> Keeps Nb A B -> J i B) -> (∀ A B,Jx A -> Keeps Nb A B -> Jx B) ->
  (∀ i args W1,J i W1 -> i < N -> Φ i args W1 -> YieldAt Fence.wide (n - 1) P l args W1 fun e W' =>
   (e=.returned (.bool true) /\ J (i + 1) W' /\ Keeps S W1 W') \/ (e=.returned (.bool false) /\ Jx W')) ->
  J 0 W -> CallsIn Fence.wide n P g (#[.func (.yield l) #[] #[]] ++ lb) W fun e W'=>(∃ v,e=.returned v) /\ (J N W' \/ Jx W')
def roundEnd (w:World) (S:Nat -> Prop) (I:Nat -> World -> Prop) (Ix:Code -> World -> Prop) (i:Nat) (W:World):Exit -> Act -> World -> Prop
 | .normal,_,W'=>Keeps (fun b=>S b /\ ¬ Book w b) W W' /\ I (i + 1) W'
 | .ret,_,W'=>Keeps (fun b=>S b /\ ¬ Book w b) W W' /\ Ix .ret W'
 | .exit id,_,W'=>Keeps (fun b=>S b /\ ¬ Book w b) W W' /\ Ix (.exit id) W'
 | .goto t,_,W'=>Keeps (fun b=>S b /\ ¬ Book w b) W W' /\ Ix (.goto t) W'
 | .panic _,_,_=>False
 | .outgrown,_,_=>False
theorem z2a {g:Operand} {ps:Array Tmp} {assign body:Code} {Q:Exit -> Act -> World -> Prop} {a:Act} {w:World} {gf:Nat} {lb:Array Value}
  (hg:a.eval g=.func (.func gf) #[] lb) (eg:∀ args w,(callFunc gf args).run P w=.ok (.enter gf args) w)
  {N:Nat} {Φ:Nat -> Array Value -> World -> Prop} {S:Nat -> Prop} (hit:Iter P (n - 1) gf lb N Φ S w) (hS:∀ b,Book w b -> S b)
  (hps:∀ i args W,Φ i args W -> args.size=ps.size)
  (I:Nat -> World -> Prop) (Ix:Code -> World -> Prop) (hI:∀ i A B,I i A -> Keeps (Book w) A B -> I i B) (hIx:∀ c A B,Ix c A -> Keeps (Book w) A B -> Ix c B) (h0:I 0 w)
  (hround:∀ (l i:Nat) (args:Array Value) (W:World),l=w.heap.size + 1 -> w.heap.size + 1 < W.heap.size -> I i W -> i < N -> Φ i args W ->
   assign.wpIn (Fence.wide.inRound l) (n - 1 - 1) P (Exit.then (fun a1 W1=>Keeps Nb W W1 /\ ∀ W2,Keeps (·=l) W1 W2 -> body.wpIn (Fence.wide.inRound l) (n - 1 - 1) P (roundEnd w S I Ix i W2) a1 W2) (fun _ _ _=>False))
    { tmps:=(ps.zip args).foldl (fun t (p,v)=>t.setIfInBounds p v) a.tmps,defers:=[] } W)
  (hdone:∀ W,I N W -> W.heap[w.heap.size]?=some (.deferred (some [])) -> Q .normal { a with defers:={ target:=.collected w.heap.size,args:=#[] } :: a.defers } W)
  (hstop:∀ c W,Ix c W -> W.heap[w.heap.size]?=some (.deferred (some [])) -> c.wpIn Fence.wide n P Q { a with defers:={ target:=.collected w.heap.size,args:=#[] } :: a.defers } W) :
  (Code.rangeFunc g ps assign body).wpIn Fence.wide n P Q a w:=by
 refine wpIn_rangeFunc fun fn _=>?_
 let rec':LoopState -> Option Code -> Loop:=fun st pe=>{ state:=st,pending:=pe,fn,tmps:=a.tmps,params:=ps,assign,body,defers:=w.heap.size }
 let W1:=(w.alloc (.deferred (some []))).alloc (.loop (rec' .ready none))
 have K1:Keeps Nb w W1:=((Keeps.refl Nb w).alloc _).alloc _;have L1:W1.heap[w.heap.size + 1]?=some (.loop (rec' .ready none)):=by
  have:=World.alloc_heap_new (w.alloc (.deferred (some []))) (.loop (rec' .ready none))
  rwa [World.size_alloc] at this
 have D1:W1.heap[w.heap.size]?=some (.deferred (some [])):=(Below.heap_alloc _ _ _ (by simp)).trans (World.alloc_heap_new w _);have hnb:∀ {A B:World},Keeps Nb A B -> Keeps (Book w) A B:=fun h=>h.of_nb;have hl:∀ (W:World) (o:Obj),Keeps (Book w) W (W.putObj (w.heap.size + 1) o):=fun W o=>(zv W _ o).mono fun i _ e=>.inr e
 refine ⟨w.heap.size + 1,[{ target:=.collected w.heap.size,args:=#[] }],W1,{ target:=.fn (.func gf) lb,args:=#[.func (.yield (w.heap.size + 1)) #[] #[]] },W1,gf,
  #[.func (.yield (w.heap.size + 1)) #[] #[]] ++ lb,W1,run_enterLoop_outer _ _ _ _ _,?_,fun _ _=>trivial,?_,?_,?_⟩
 ·simp only [resolve,hg];simp [go_sem]
 ·simp [invoke,go_sem,eg]
 ·intro h;cases h
 have key:=hit (w.heap.size + 1) (fun i W=>I i W /\ W.heap[w.heap.size + 1]?=some (.loop (rec' .ready none)) /\ W.heap[w.heap.size]?=some (.deferred (some [])))
  (fun W=>∃ c,Ix c W /\ W.heap[w.heap.size + 1]?=some (.loop (rec' .done (some c))) /\ W.heap[w.heap.size]?=some (.deferred (some []))) W1 K1 (by simp [W1])
  (fun i A B ⟨h1,h2,h3⟩ k=>⟨hI i A B h1 (hnb k),k.nb h2,k.nb h3⟩)
  (fun A B ⟨c,h1,h2,h3⟩ k=>⟨c,hIx c A B h1 (hnb k),k.nb h2,k.nb h3⟩) ?_ ⟨hI _ _ _ h0 (hnb K1),L1,D1⟩
 ·
  refine key.mono ?_;rintro e W2 ⟨⟨v,rfl⟩,⟨h1,h2,h3⟩ | ⟨c,h1,h2,h3⟩⟩
  ·exact ⟨none,_,run_endLoop h2 (by simp [rec']),hdone _ (hI _ _ _ h1 (hl _ _)) ((World.putObj_heap_other (by omega)).trans h3)⟩
  ·exact ⟨some c,_,run_endLoop h2 (by simp [rec']),hstop c _ (hIx _ _ _ h1 (hl _ _)) ((World.putObj_heap_other (by omega)).trans h3)⟩
 ·
  rintro i args W ⟨h1,h2,h3⟩ hN hφ;have hlt:=lt_of_block h2;refine ⟨fn,_,assign,body,run_yield h2 (hps i args W hφ),roundIn_of_wpIn trivial (wpIn_mono (hround _ i args W rfl hlt h1 hN hφ) ?_)⟩;rintro e a1 W2 h;cases e with
  | normal =>
   obtain ⟨k2,hb⟩:=h;have l2:=k2.nb h2;have d2:=k2.nb h3;refine ⟨_,run_beginRound l2 rfl,?_⟩;obtain ⟨W3,hW3⟩:∃ W3,W2.putObj (w.heap.size + 1) (.loop { rec' .ready none with state:=.busy })=W3:=⟨_,rfl⟩
   have l3:W3.heap[w.heap.size + 1]?=some (.loop (rec' .busy none)):=hW3 ▸ World.putObj_heap_same (lt_of_block l2);have d3:W3.heap[w.heap.size]?=some (.deferred (some [])):=hW3 ▸ (World.putObj_heap_other (by omega)).trans d2;have k3:Keeps (·=w.heap.size + 1) W2 W3:=hW3 ▸ zv _ _ _;have kS:Keeps S W W3:=(k2.of_nb).trans k3 (fun i _ e=>hS i (.inr e));refine wpIn_mono (show body.wpIn _ _ P (roundEnd w S I Ix i W3) a1 _ from hW3 ▸ hb W3 k3) ?_
   have fin:∀ (jump:Option Code) (W4:World),Keeps (fun b=>S b /\ ¬ Book w b) W3 W4 ->
     (Instr.endRound (w.heap.size + 1) jump).run P W4=.ok (.bool jump.isNone) (W4.putObj (w.heap.size + 1) (.loop (rec' (if jump.isNone then .ready else .done) jump))) /\
     (W4.putObj (w.heap.size + 1) (.loop (rec' (if jump.isNone then .ready else .done) jump))).heap[w.heap.size + 1]?=some (.loop (rec' (if jump.isNone then .ready else .done) jump)) /\
     (W4.putObj (w.heap.size + 1) (.loop (rec' (if jump.isNone then .ready else .done) jump))).heap[w.heap.size]?=some (.deferred (some [])):=fun jump W4 k4=>by
    have l4:W4.heap[w.heap.size + 1]?=some (.loop (rec' .busy none)):=(k4.block _ (lt_of_block l3) (fun h=>h.2 (.inr rfl))).trans l3;have d4:W4.heap[w.heap.size]?=some (.deferred (some [])):=(k4.block _ (lt_of_block d3) (fun h=>h.2 (.inl rfl))).trans d3;exact ⟨run_endRound jump l4,World.putObj_heap_same (lt_of_block l4),(World.putObj_heap_other (by omega)).trans d4⟩
   rintro e2 a2 W4 hp;cases e2 with
   | normal =>
    obtain ⟨k4,hi⟩:=hp;obtain ⟨hr,hl4,hd4⟩:=fin none W4 k4;exact ⟨_,_,hr,.inl ⟨rfl,⟨hI _ _ _ hi (hl _ _),hl4,hd4⟩,(kS.trans k4 (fun i _ e=>e.1)).trans (zv _ _ _) (fun i _ e=>hS i (.inr e))⟩⟩
   | ret =>
    obtain ⟨k4,hi⟩:=hp;obtain ⟨hr,hl4,hd4⟩:=fin (some .ret) W4 k4;exact ⟨_,_,hr,.inr ⟨rfl,.ret,hIx _ _ _ hi (hl _ _),hl4,hd4⟩⟩
   | exit id =>
    obtain ⟨k4,hi⟩:=hp;obtain ⟨hr,hl4,hd4⟩:=fin (some (.exit id)) W4 k4;exact ⟨_,_,hr,.inr ⟨rfl,.exit id,hIx _ _ _ hi (hl _ _),hl4,hd4⟩⟩
   | goto t =>
    obtain ⟨k4,hi⟩:=hp;obtain ⟨hr,hl4,hd4⟩:=fin (some (.goto t)) W4 k4;exact ⟨_,_,hr,.inr ⟨rfl,.goto t,hIx _ _ _ hi (hl _ _),hl4,hd4⟩⟩
   | panic ch=>exact hp.elim
   | outgrown=>exact hp.elim
  | exit id=>exact h.elim
  | goto t=>exact h.elim
  | ret=>exact h.elim
  | panic chain=>exact h.elim
  | outgrown=>exact h.elim
def ends (Q:Exit -> Act -> World -> Prop):Exit -> Act -> World -> Prop
 | .panic _,_,_=>False
 | .outgrown,_,_=>False
 | e,a,w=>Q e a w
theorem zg1 {Q:Exit -> Act -> World -> Prop} (e:Exit) (a:Act) (w:World) (h:ends Q e a w):Q e a w:=by
 cases e <;> first | exact h | exact h.elim
theorem z1j {f:FuncId} {fn:Func} {c:Code} {args:Array Value} {w:World} {R:Ending -> World -> Prop} (hf:P.funcs[f]?=some fn) (hb:fn.body=some c)
  (h:c.wp P (ends (bodyPostM Fence.wide 9 P fn R)) { tmps:=args ++ Array.replicate (fn.ntmps - args.size) undef,defers:=[] } w):Calls P f args w R :=
 callsIn_wide.1 (callsIn_of_wp_marks (n:=9) hf hb trivial (wpIn_wide.2 (wp_mono h zg1)) rfl)
section
variable {F:Fence} {ops:Array Oper} {rest:List Oper} {dst:Option Tmp} {s x:Operand} {t ty:TypeId} {pos:String} {aft:Array Edge} {gd:Option (Nat × Bool)} {a:Act} {w w':World} {Q:Exit -> Act -> World -> Prop}
theorem zg {id:Nat} {draw:Bool} (h:At ((Code.region id ops draw).wpIn F n P Q a w)):(Code.region id ops draw).wpIn F n P Q a w:=h
theorem z19 {g:Operand} {ps:Array Tmp} {c c2:Code} (h:At ((Code.rangeFunc g ps c c2).wp P Q a w)):(Code.rangeFunc g ps c c2).wp P Q a w:=h
theorem zd4 {v:Value} (hx:a.eval x=v):∃ v' w',(execOp a.eval ⟨dst,.box t x,ty,pos,aft,gd⟩).run P w=.ok (.value v') w' /\ IsNew w (.cells v.cells t) v' w' :=
 ⟨_,w.alloc (.cells v.cells t),by unfold execOp;simp only [hx,Instr.box,newVar,newRow,Sem.run_bind,Sem.run_pure,Result.andThen_ok,Sem.run,newObj];rfl,_,rfl,newAt _ _⟩
end
end Go.Lk
end
section
namespace Go.Lk
open Go.RowKit Go.MapKept Go.ChangeMaps
open Go.Maps (Keyed string_keyed)
variable {P:Program} {t k e:TypeId} {S:Nat -> Prop} {w w':World} {m:Nat} {l:List (ByteArray × Value)}
def SMap (w:World) (m:Nat) (l:List (ByteArray × Value)):Prop :=
 ∃ es clock,w.heap[m]?=some (.map es clock) /\ Stamped es clock /\ es.toList.map (fun e=>(e.key,e.val))=l.map (fun p=>(Value.string p.1,p.2)) /\ ∀ p ∈ l,p.1.size <= maxLen
theorem SMap.lt (h:SMap w m l):m < w.heap.size:=by obtain ⟨_,_,h1,-⟩:=h;exact lt_of_block h1
theorem SMap.keeps (h:SMap w m l) (hk:Keeps S w w') (hn:¬ S m):SMap w' m l:=by
 have hl:=h.lt;obtain ⟨es,clock,h1,h2⟩:=h;exact ⟨es,clock,(hk.block m hl hn).trans h1,h2⟩
theorem SMap.nb (h:SMap w m l) (hk:Keeps Nb w w'):SMap w' m l:=h.keeps hk (fun e=>e)
theorem z5q (h:w.heap[m]?=some (.map #[] 0)):SMap w m []:=⟨#[],0,h,stamped_empty 0,by simp,by simp⟩
theorem SMap.nodup (h:SMap w m l):(l.map Prod.fst).Nodup:=by
 obtain ⟨es,clock,h1,h2,h3,h4⟩:=h;have h5:(es.toList.map (·.key))=(l.map Prod.fst).map Value.string:=by
  have:=congrArg (List.map Prod.fst) h3;simpa [List.map_map,Function.comp_def] using this
 have h6:=h2.2.2;rw [h5] at h6;exact List.Pairwise.of_map Value.string (fun a b hab e=>hab (by rw [e])) h6
def sget (l:List (ByteArray × Value)) (s:ByteArray):Option Value:=(l.find? fun p=>decide (p.1=s)).map Prod.snd
def shas (l:List (ByteArray × Value)) (s:ByteArray):Bool:=l.any fun p=>decide (p.1=s)
def sput (l:List (ByteArray × Value)) (s:ByteArray) (v:Value):List (ByteArray × Value):=if shas l s then l.map fun p=>if p.1=s then (s,v) else p else l ++ [(s,v)]
def sdel (l:List (ByteArray × Value)) (s:ByteArray):List (ByteArray × Value):=l.filter fun p=>decide (p.1 ≠ s)
theorem zdc {s:ByteArray} (h:∀ p ∈ l,p.1 ≠ s):sget l s=none:=by
 unfold sget;rw [List.find?_eq_none.2 (fun p hp=>by simpa using h p hp)];rfl
theorem zdd {s:ByteArray} {v:Value} (hd:(l.map Prod.fst).Nodup) (h:(s,v) ∈ l):sget l s=some v:=by
 unfold sget
 induction l with
 | nil=>cases h
 | cons p l ih =>
  rw [List.find?_cons];by_cases hp:p.1=s
  ·
   rcases List.mem_cons.1 h with rfl | h2
   ·simp
   ·simp only [List.map_cons,List.nodup_cons] at hd;exact absurd (List.mem_map.2 ⟨_,h2,hp.symm⟩) hd.1
  ·
   simp only [hp,decide_false];rcases List.mem_cons.1 h with rfl | h2
   ·exact absurd rfl hp
   ·exact ih (by simp only [List.map_cons,List.nodup_cons] at hd;exact hd.2) h2
section
variable {es:Array MapEntry}
theorem z4c (h3:es.toList.map (fun e=>(e.key,e.val))=l.map (fun p=>(Value.string p.1,p.2))) {j:Nat} {e0:MapEntry} (hj:es.toList[j]?=some e0):∃ p,l[j]?=some p /\ e0.key=.string p.1 /\ e0.val=p.2:=by
 have:=congrArg (fun x=>x[j]?) h3;simp only [List.getElem?_map,hj,Option.map_some] at this;cases hl:l[j]? with
 | none=>rw [hl] at this;cases this
 | some p =>
  rw [hl] at this;simp only [Option.map_some,Option.some.injEq,Prod.mk.injEq] at this;exact ⟨p,rfl,this.1,this.2⟩
theorem z5v (h3:es.toList.map (fun e=>(e.key,e.val))=l.map (fun p=>(Value.string p.1,p.2))) {p:ByteArray × Value} (hp:p ∈ l):∃ e0 ∈ es.toList,e0.key=.string p.1 /\ e0.val=p.2:=by
 have:(Value.string p.1,p.2) ∈ es.toList.map (fun e=>(e.key,e.val)):=by rw [h3];exact List.mem_map.2 ⟨p,hp,rfl⟩
 obtain ⟨e0,he,h4⟩:=List.mem_map.1 this;simp only [Prod.mk.injEq] at h4;exact ⟨e0,he,h4.1,h4.2⟩
theorem za0 (h3:es.toList.map (fun e=>(e.key,e.val))=l.map (fun p=>(Value.string p.1,p.2))):es.size=l.length:=by
 have:=congrArg List.length h3;simpa using this
end
theorem z0a {es:Array MapEntry} {clock:Nat} (hb:w.heap[m]?=some (.map es clock)) (o:Obj):Keeps (·=m) w (setBlock w m o) :=
 ⟨rfl,rfl,rfl,by simp [setBlock],fun i hi hn=>heap_setBlock_other hb o hn⟩
theorem z1t {α:Type} {l:List α} (h:l.Nodup) {i j:Nat} {x:α} (hi:l[i]?=some x) (hj:l[j]?=some x):i=j:=by
 obtain ⟨h1,e1⟩:=List.getElem?_eq_some_iff.1 hi;obtain ⟨h2,e2⟩:=List.getElem?_eq_some_iff.1 hj;have h3:=List.pairwise_iff_getElem.1 h;rcases Nat.lt_trichotomy i j with hl | hl | hl
 ·exact absurd (e1.trans e2.symm) (h3 i j h1 h2 hl)
 ·exact hl
 ·exact absurd (e2.trans e1.symm) (h3 j i h2 h1 hl)
theorem z3n (hd:(l.map Prod.fst).Nodup) {j:Nat} {p:ByteArray × Value} (hj:l[j]?=some p) (v:Value):(l.map fun q=>if q.1=p.1 then (p.1,v) else q)=l.set j (p.1,v):=by
 apply List.ext_getElem?;intro i;rw [List.getElem?_map,List.getElem?_set];by_cases hij:j=i
 ·subst hij;rw [hj];simp [(List.getElem?_eq_some_iff.1 hj).1]
 ·
  rw [if_neg hij];cases hi:l[i]? with
  | none=>rfl
  | some q =>
   have:q.1 ≠ p.1:=fun e=>hij (z1t hd (i:=j) (j:=i) (x:=p.1) (by rw [List.getElem?_map,hj];rfl) (by rw [List.getElem?_map,hi];simp [e]));simp [this]
theorem z4e {p:ByteArray × Value}:∀ {l:List (ByteArray × Value)} {j:Nat},(l.map Prod.fst).Nodup -> l[j]?=some p -> l.filter (fun q=>decide (q.1 ≠ p.1))=l.eraseIdx j
 | [],j,_,h=>by simp at h
 | q :: l,0,hd,h=>by
  simp at h;subst h;simp only [List.map_cons,List.nodup_cons] at hd;rw [List.filter_cons,List.eraseIdx_zero,List.tail_cons];simp only [ne_eq,not_true_eq_false,decide_false,Bool.false_eq_true,if_false];exact List.filter_eq_self.2 fun x hx=>by
   have:x.1 ≠ q.1:=fun e=>hd.1 (List.mem_map.2 ⟨x,hx,e⟩);simpa using this
 | q :: l,j + 1,hd,h=>by
  have h':l[j]?=some p:=by simpa using h
  simp only [List.map_cons,List.nodup_cons] at hd;have hne:q.1 ≠ p.1:=fun e=>hd.1 (List.mem_map.2 ⟨p,List.mem_of_getElem? h',e.symm⟩);rw [List.filter_cons,List.eraseIdx_cons_succ,z4e hd.2 h'];simp [hne]
structure SmT (P:Program) (t k e:TypeId):Prop where
 ht:P.underlying t=some (.map k e)
 hk:P.underlying k=some .string
theorem SmT.key (T:SmT P t k e) {s:ByteArray} (hs:s.size <= maxLen):∃ kl,keyOf P k (.string s)=some kl:=⟨_,Go.WideMaps.keyOf_string_mk T.hk hs⟩
theorem SmT.find (T:SmT P t k e) {es:Array MapEntry} {clock:Nat} {s:ByteArray} (hs:s.size <= maxLen) (h3:es.toList.map (fun e=>(e.key,e.val))=l.map (fun p=>(Value.string p.1,p.2))) (h4:∀ p ∈ l,p.1.size <= maxLen) (w:World) :
  ((Instr.findKey k (.string s) es.toList).run P w=.ok none w /\ (∀ x ∈ es.toList,x.key ≠ .string s) /\ ∀ p ∈ l,p.1 ≠ s) \/
  ∃ (j:Nat) (e0:MapEntry) (p:ByteArray × Value),(Instr.findKey k (.string s) es.toList).run P w=.ok (some (j,e0.val)) w /\ es.toList[j]?=some e0 /\ e0.key=.string s /\ l[j]?=some p /\ p.1=s /\ p.2=e0.val:=by
 obtain ⟨kl,hkey⟩:=T.key hs
 rcases (string_keyed T.hk).find w hkey es.toList (fun x hx=>by
   obtain ⟨j,hj⟩:=List.mem_iff_getElem?.1 hx;obtain ⟨p,hp,h5,-⟩:=z4c h3 hj;rw [h5]
   exact T.key (h4 p (List.mem_of_getElem? hp))) with ⟨h5,h6⟩ | ⟨j,e0,h5,h6,h7⟩
 ·refine .inl ⟨h5,h6,fun p hp e=>?_⟩;obtain ⟨e0,he,h7,-⟩:=z5v h3 hp;exact h6 e0 he (by rw [h7,e])
 ·obtain ⟨p,hp,h8,h9⟩:=z4c h3 h6;rw [h7] at h8;exact .inr ⟨j,e0,p,h5,h6,h7,hp,(by cases h8;rfl),h9.symm⟩
theorem SMap.look (h:SMap w m l) (T:SmT P t k e) {z:Value} (hz:(zeroValue e).run P w=.ok z w) {s:ByteArray} (hs:s.size <= maxLen) (c:Bool) :
  (Instr.lookup t (.map (some m)) (.string s) c).run P w=.ok (if c then .tuple #[(sget l s).getD z,.bool (sget l s).isSome] else (sget l s).getD z) w:=by
 have hd:=h.nodup;obtain ⟨es,clock,hb,hst,h3,h4⟩:=h;obtain ⟨kl,hkey⟩:=T.key hs;have K:=string_keyed T.hk;rcases T.find (clock:=clock) hs h3 h4 w with ⟨h5,-,h6⟩ | ⟨j,e0,p,h5,h6,h7,h8,rfl,h9⟩
 ·simp [Instr.lookup,run_underlying T.ht,MapKept.run_getObj_map hb,K.check w _ hkey,h5,hz,Result.andThen];rw [zdc h6];rfl
 ·have:sget l p.1=some e0.val:=zdd hd (by rw [<- h9];exact List.mem_of_getElem? h8);simp [Instr.lookup,run_underlying T.ht,MapKept.run_getObj_map hb,K.check w _ hkey,h5,Result.andThen,this]
theorem z42 {s:ByteArray}:shas l s=true ↔ ∃ p ∈ l,p.1=s:=by simp [shas]
theorem SMap.put (h:SMap w m l) (T:SmT P t k e) {s:ByteArray} (hs:s.size <= maxLen) (v:Value) :
  ∃ w',(Instr.mapUpdate t (.map (some m)) (.string s) v).run P w=.ok () w' /\ SMap w' m (sput l s v) /\ Keeps (·=m) w w':=by
 have hd:=h.nodup;obtain ⟨es,clock,hb,hst,h3,h4⟩:=h;obtain ⟨kl,hkey⟩:=T.key hs;have K:=string_keyed T.hk;rcases T.find (clock:=clock) hs h3 h4 w with ⟨h5,h5b,h6⟩ | ⟨j,e0,p,h5,h6,h7,h8,rfl,h9⟩
 ·
  refine ⟨setBlock w m (.map (es.push ⟨.string s,v,clock⟩) (clock + 1)),?_,⟨_,_,heap_setBlock_same hb _,stamped_push hst h5b,?_,?_⟩,z0a hb _⟩
  ·simp [Instr.mapUpdate,run_underlying T.ht,MapKept.run_getObj_map hb,K.check w _ hkey,h5,Result.andThen,MapKept.run_setObj_map _ hb,setBlock]
  ·
   have:shas l s=false:=by rw [<- Bool.not_eq_true,z42];rintro ⟨p,hp,e⟩;exact h6 p hp e
   simp [sput,this,h3]
  ·
   intro p hp;have:shas l s=false:=by rw [<- Bool.not_eq_true,z42];rintro ⟨p,hp,e⟩;exact h6 p hp e
   simp only [sput,this,Bool.false_eq_true,if_false,List.mem_append,List.mem_singleton] at hp;rcases hp with hp | rfl
   ·exact h4 p hp
   ·exact hs
 ·
  have hj:es[j]?=some e0:=by simpa using h6
  have hin:shas l p.1=true:=z42.2 ⟨p,List.mem_of_getElem? h8,rfl⟩;refine ⟨setBlock w m (.map (es.modify j fun e=>{ e with key:=.string p.1,val:=v }) clock),?_,⟨_,_,heap_setBlock_same hb _,?_,?_,?_⟩,z0a hb _⟩
  ·simp [Instr.mapUpdate,run_underlying T.ht,MapKept.run_getObj_map hb,K.check w _ hkey,h5,Result.andThen,hj,h7,K.stays w hkey,MapKept.run_setObj_map _ hb,setBlock]
  ·refine stamped_modify hst _ _ (fun _ _=>rfl) (fun x hx hxj=>?_);rw [hj] at hxj;cases hxj;exact h7.symm
  ·
   have hs2:(es.modify j fun e=>{ e with key:=.string p.1,val:=v }).toList=es.toList.set j { e0 with key:=.string p.1,val:=v }:=by rw [Array.toList_modify,modify_eq_set _ _ _ _ h6]
   rw [hs2,List.map_set,h3,sput,if_pos hin,z3n hd h8,List.map_set]
  ·
   intro q hq;rw [sput,if_pos hin,z3n hd h8] at hq;rcases List.mem_or_eq_of_mem_set hq with hq | rfl
   ·exact h4 q hq
   ·exact h4 p (List.mem_of_getElem? h8)
theorem SMap.del (h:SMap w m l) (T:SmT P t k e) {s:ByteArray} (hs:s.size <= maxLen) (ty:TypeId) :
  ∃ w',(Builtin.delete_ #[t,k] ty #[.map (some m),.string s]).run P w=.ok (.tuple #[]) w' /\ SMap w' m (sdel l s) /\ Keeps (·=m) w w':=by
 have hd:=h.nodup;obtain ⟨es,clock,hb,hst,h3,h4⟩:=h;obtain ⟨kl,hkey⟩:=T.key hs;have K:=string_keyed T.hk;rcases T.find (clock:=clock) hs h3 h4 w with ⟨h5,h5b,h6⟩ | ⟨j,e0,p,h5,h6,h7,h8,rfl,h9⟩
 ·
  refine ⟨setBlock w m (.map es clock),?_,⟨_,_,heap_setBlock_same hb _,hst,?_,?_⟩,z0a hb _⟩
  ·simp [Builtin.delete_,run_underlying T.ht,MapKept.run_getObj_map hb,K.check w _ hkey,h5,MapKept.run_setObj_map _ hb,Result.andThen,setBlock]
  ·rw [h3,sdel,List.filter_eq_self.2 (fun p hp=>by simpa using h6 p hp)]
  ·exact fun p hp=>h4 p (List.mem_filter.1 hp).1
 ·
  have hjs:j < es.size:=by simpa using (List.getElem?_eq_some_iff.1 h6).1
  have hsub:(es.eraseIdxIfInBounds j).toList=es.toList.eraseIdx j:=by
   unfold Array.eraseIdxIfInBounds;rw [dif_pos hjs];simp
  refine ⟨setBlock w m (.map (es.eraseIdxIfInBounds j) clock),?_,⟨_,_,heap_setBlock_same hb _,stamped_erase hst j,?_,?_⟩,z0a hb _⟩
  ·simp [Builtin.delete_,run_underlying T.ht,MapKept.run_getObj_map hb,K.check w _ hkey,h5,MapKept.run_setObj_map _ hb,Result.andThen,setBlock]
  ·rw [hsub,sdel,z4e hd h8,map_eraseIdx,map_eraseIdx,h3]
  ·exact fun p hp=>h4 p (List.mem_filter.1 hp).1
theorem SMap.len (h:SMap w m l) (T:SmT P t k e) (hm:t < P.types.size \/ True):∃ es clock,w.heap[m]?=some (.map es clock) /\ es.size=l.length:=by
 obtain ⟨es,clock,hb,hst,h3,h4⟩:=h;exact ⟨es,clock,hb,za0 h3⟩
def SRng (w:World) (m r:Nat) (l vs:List (ByteArray × Value)):Prop :=
 ∃ es clock since seen c0,w.heap[m]?=some (.map es clock) /\ Stamped es clock /\ es.toList.map (fun e=>(e.key,e.val))=l.map (fun p=>(Value.string p.1,p.2)) /\ (∀ p ∈ l,p.1.size <= maxLen) /\
  w.heap[r]?=some (.mapIter (some m) since seen c0) /\ (∀ x ∈ es.toList,x.born < since) /\ since <= c0 /\ since <= clock /\ vs.Nodup /\ (∀ p ∈ vs,p ∈ l) /\
  (∀ x ∈ es.toList,∀ s v,x.key=.string s -> x.val=v -> (seen.contains x.born=true ↔ (s,v) ∈ vs))
theorem SRng.map {vs:List (ByteArray × Value)} {r:Nat} (h:SRng w m r l vs):SMap w m l:=by
 obtain ⟨es,clock,since,seen,c0,h1,h2,h3,h4,-⟩:=h;exact ⟨es,clock,h1,h2,h3,h4⟩
theorem SRng.keeps {vs:List (ByteArray × Value)} {r:Nat} (h:SRng w m r l vs) (hk:Keeps S w w') (hn:¬ S m) (hr:¬ S r):SRng w' m r l vs:=by
 obtain ⟨es,clock,since,seen,c0,h1,h2,h3,h4,h5,h6⟩:=h;exact ⟨es,clock,since,seen,c0,hk.at h1 hn,h2,h3,h4,hk.at h5 hr,h6⟩
theorem SMap.range (h:SMap w m l) (T:SmT P t k e) :
  ∃ r w',(Instr.range t (.map (some m))).run P w=.ok (.pointer (some ⟨r,0,none⟩)) w' /\ w.heap.size <= r /\ SRng w' m r l [] /\ Keeps Nb w w':=by
 have hlt:=h.lt;obtain ⟨es,clock,hb,hst,h3,h4⟩:=h;refine ⟨_,_,run_range_map w t k e m es clock T.ht hb,Nat.le_refl _,⟨es,clock,clock,#[],clock,((MapKept.heap_alloc w _).2 m hlt).trans hb,hst,h3,h4,(MapKept.heap_alloc w _).1,hst.1,Nat.le_refl _,Nat.le_refl _,List.nodup_nil,by simp,by simp⟩,(Keeps.refl _ _).alloc _⟩
theorem SRng.next {vs:List (ByteArray × Value)} {r:Nat} (h:SRng w m r l vs) (ty:TypeId) :
  (vs.Perm l /\ (Instr.next (.pointer (some ⟨r,0,none⟩)) false ty).run P w=.ok (.tuple #[.bool false]) w) \/
  ∃ p w',p ∈ l /\ p ∉ vs /\ (Instr.next (.pointer (some ⟨r,0,none⟩)) false ty).run P w=.ok (.tuple #[.bool true,.string p.1,p.2]) w' /\ SRng w' m r l (vs ++ [p]) /\ Keeps (·=r) w w' /\
   ∀ u,u.heap[m]?=w'.heap[m]? -> u.heap[r]?=w'.heap[r]? -> (Instr.entry (.pointer (some ⟨r,0,none⟩))).run P u=.ok (.tuple #[.string p.1,p.2]) u:=by
 have hd:=h.map.nodup;obtain ⟨es,clock,since,seen,c0,hb,hst,h3,h4,hr,hold,hsc,hsk,hnd,hsub,hseen⟩:=h;have hne:r ≠ m:=by rintro rfl;rw [hb] at hr;cases hr
 have hdl:l.Nodup:=List.Pairwise.of_map Prod.fst (fun a b hab e=>hab (by rw [e])) hd;rcases run_next_at (P:=P) w ty r m since c0 seen es clock hr hb hold hsc with ⟨h0,hrun⟩ | ⟨x,hx,w1,hal,hrun⟩
 ·
  refine .inl ⟨?_,hrun⟩;refine (List.perm_ext_iff_of_nodup hnd hdl).2 fun p=>⟨hsub p,fun hp=>?_⟩
  obtain ⟨x,hx,h5,h6⟩:=z5v h3 hp;have h7:seen.contains x.born=true:=by
   have h8:leftOf es seen=#[]:=Array.eq_empty_of_size_eq_zero h0;unfold leftOf at h8;rw [Array.filter_eq_empty_iff] at h8;simpa using h8 x (by simpa using hx)
  exact (hseen x hx p.1 p.2 h5 h6).1 h7
 ·
  unfold leftOf at hx;have hx':x ∈ es.toList /\ seen.contains x.born=false:=by simpa using hx
  obtain ⟨j,hj⟩:=List.mem_iff_getElem?.1 hx'.1;obtain ⟨p,hp,h5,h6⟩:=z4c h3 hj;have hpl:=List.mem_of_getElem? hp;have hpn:p ∉ vs:=fun hv=>by
   have:=(hseen x hx'.1 p.1 p.2 h5 h6).2 hv;rw [hx'.2] at this;cases this
  have hr1:w1.heap[r]?=some (.mapIter (some m) since seen c0):=by rcases hal with rfl | rfl <;> exact hr
  have hb1:w1.heap[m]?=some (.map es clock):=by rcases hal with rfl | rfl <;> exact hb
  have hset:=heap_set (o':=.mapIter (some m) since (seen.push x.born) clock) hr1;have hb':(setBlock w1 r (.mapIter (some m) since (seen.push x.born) clock)).heap[m]?=some (.map es clock):=(hset.2 m (fun e1=>hne e1.symm)).trans hb1;rw [h5,h6] at hrun;refine .inr ⟨p,_,hpl,hpn,hrun,⟨es,clock,since,seen.push x.born,clock,hb',hst,h3,h4,hset.1,hold,hsk,hsk,?_,?_,?_⟩,?_,?_⟩
  ·rw [List.nodup_append];exact ⟨hnd,by simp,fun a ha b hb2=>by simp at hb2;subst hb2;rintro rfl;exact hpn ha⟩
  ·
   intro q hq;rcases List.mem_append.1 hq with hq | hq
   ·exact hsub q hq
   ·simp at hq;subst hq;exact hpl
  ·
   intro y hy s v hs hv;rw [contains_push,List.mem_append,List.mem_singleton,Bool.or_eq_true,hseen y hy s v hs hv];refine or_congr Iff.rfl ?_;rw [beq_iff_eq];constructor
   ·
    intro e1;have:y=x:=by
     obtain ⟨i1,hi1⟩:=List.mem_iff_getElem?.1 hy;have:=z1t hst.2.1 (i:=i1) (j:=j) (x:=x.born) (by rw [List.getElem?_map,hi1];simp [e1]) (by rw [List.getElem?_map,hj];rfl);subst this;rw [hi1] at hj;cases hj;rfl
    subst this;rw [h5] at hs;rw [h6] at hv;cases hs;exact Prod.ext rfl hv.symm
   ·
    intro e1;obtain ⟨i1,hi1⟩:=List.mem_iff_getElem?.1 hy;have hk2:y.key=x.key:=by rw [hs,h5,<- e1]
    have:=z1t hst.2.2 (i:=i1) (j:=j) (x:=x.key) (by rw [List.getElem?_map,hi1];simp [hk2]) (by rw [List.getElem?_map,hj];rfl);subst this;rw [hi1] at hj;cases hj;rfl
  ·rcases hal with rfl | rfl <;> exact ⟨rfl,rfl,rfl,by simp [setBlock],fun i _ hi=>hset.2 i hi⟩
  ·intro u hum hur;have:=run_entry_at (P:=P) u r m since seen es clock x (hur.trans hset.1) (hum.trans hb') hx'.1 hst.2.1;rw [h5,h6] at this;exact this
noncomputable def leftS (w:World) (m r:Nat) (l:List (ByteArray × Value)):Nat:=open Classical in if h:∃ vs,SRng w m r l vs then l.length - h.choose.length else 0
theorem SRng.vs_eq {vs vs':List (ByteArray × Value)} {r:Nat} (h:SRng w m r l vs) (h':SRng w m r l vs'):vs.length=vs'.length:=by
 have hd:=h.map.nodup;obtain ⟨es,clock,since,seen,c0,hb,hst,h3,h4,hr,-,-,-,hnd,hsub,hseen⟩:=h;obtain ⟨es',clock',since',seen',c0',hb',hst',h3',h4',hr',-,-,-,hnd',hsub',hseen'⟩:=h';rw [hb] at hb';cases hb';rw [hr] at hr';cases hr';refine List.Perm.length_eq ((List.perm_ext_iff_of_nodup hnd hnd').2 fun p=>⟨fun hp=>?_,fun hp=>?_⟩)
 ·obtain ⟨x,hx,h5,h6⟩:=z5v h3 (hsub p hp);exact (hseen' x hx p.1 p.2 h5 h6).1 ((hseen x hx p.1 p.2 h5 h6).2 hp)
 ·obtain ⟨x,hx,h5,h6⟩:=z5v h3 (hsub' p hp);exact (hseen x hx p.1 p.2 h5 h6).1 ((hseen' x hx p.1 p.2 h5 h6).2 hp)
theorem SRng.left {vs:List (ByteArray × Value)} {r:Nat} (h:SRng w m r l vs):leftS w m r l=l.length - vs.length:=by
 unfold leftS;rw [dif_pos ⟨vs,h⟩];have:=(Exists.choose_spec (⟨vs,h⟩:∃ vs,SRng w m r l vs)).vs_eq h;omega
theorem SRng.lt {vs:List (ByteArray × Value)} {r:Nat} (h:SRng w m r l vs) {p:ByteArray × Value} (hp:p ∈ l) (hn:p ∉ vs):vs.length < l.length:=by
 have hd:l.Nodup:=List.Pairwise.of_map Prod.fst (fun a b hab e=>hab (by rw [e])) h.map.nodup;obtain ⟨es,clock,since,seen,c0,hb,hst,h3,h4,hr,-,-,-,hnd,hsub,hseen⟩:=h;have:(p :: vs).Nodup:=List.nodup_cons.2 ⟨hn,hnd⟩
 have h2:(p :: vs).length <= l.length:=List.Nodup.length_le_of_subset this (fun q hq=>by
  rcases List.mem_cons.1 hq with rfl | hq
  ·exact hp
  ·exact hsub q hq)
 rw [List.length_cons] at h2;omega
section
variable {dst:Option Tmp} {s x y:Operand} {ty:TypeId} {pos:String} {aft:Array Edge} {gd:Option (Nat × Bool)} {a:Act}
theorem z1y {z:Value} {n:ByteArray} {c:Bool} (h:SMap w m l) (T:SmT P t k e) (hz:(zeroValue e).run P w=.ok z w) (hs:a.eval s=.map (some m)) (hx:a.eval x=.string n) (hn:n.size <= maxLen) :
  (execOp a.eval ⟨dst,.lookup t s x c,ty,pos,aft,gd⟩).run P w=.ok (.value (if c then .tuple #[(sget l n).getD z,.bool (sget l n).isSome] else (sget l n).getD z)) w:=by
 unfold execOp;simp only [hs,hx,Sem.run_bind,h.look T hz hn,Result.andThen_ok,Sem.run_pure]
theorem z2s {n:ByteArray} {v:Value} (h:SMap w m l) (T:SmT P t k e) (hs:a.eval s=.map (some m)) (hx:a.eval x=.string n) (hy:a.eval y=v) (hn:n.size <= maxLen) :
  ∃ w',(execOp a.eval ⟨dst,.mapUpdate t s x y,ty,pos,aft,gd⟩).run P w=.ok .skip w' /\ SMap w' m (sput l n v) /\ Keeps (·=m) w w':=by
 obtain ⟨w',h1,h2⟩:=h.put T hn v;refine ⟨w',?_,h2⟩;unfold execOp;simp only [hs,hx,hy,Sem.run_bind,h1,Result.andThen_ok,Sem.run_pure]
theorem z5b {n:ByteArray} (h:SMap w m l) (T:SmT P t k e) (hs:a.eval s=.map (some m)) (hx:a.eval x=.string n) (hn:n.size <= maxLen) :
  ∃ v w',(execOp a.eval ⟨dst,.call ⟨.builtin .delete,#[s,x],#[t,k]⟩,ty,pos,aft,gd⟩).run P w=.ok (.value v) w' /\ SMap w' m (sdel l n) /\ Keeps (·=m) w w':=by
 obtain ⟨w',h1,h2⟩:=h.del T hn ty;refine ⟨.tuple #[],w',?_,h2⟩;unfold execOp;simp only [resolve,invoke,builtin,Sem.run_bind,Sem.run_pure,Result.andThen_ok,List.map_toArray,List.map_cons,List.map_nil,hs,hx,h1]
def IsRng (w:World) (m:Nat) (l:List (ByteArray × Value)) (v:Value) (w':World):Prop:=∃ r,v=.pointer (some ⟨r,0,none⟩) /\ w.heap.size <= r /\ SRng w' m r l [] /\ Keeps Nb w w'
theorem z5o (h:SMap w m l) (T:SmT P t k e) (hs:a.eval s=.map (some m)):∃ v w',(execOp a.eval ⟨dst,.range t s,ty,pos,aft,gd⟩).run P w=.ok (.value v) w' /\ IsRng w m l v w':=by
 obtain ⟨r,w',h1,h2⟩:=h.range T;refine ⟨_,w',?_,r,rfl,h2⟩;unfold execOp;simp only [hs,Sem.run_bind,h1,Result.andThen_ok,Sem.run_pure]
def IsNext (P:Program) (w:World) (m r:Nat) (l vs:List (ByteArray × Value)) (v:Value) (w':World):Prop :=
 (vs.Perm l /\ v=.tuple #[.bool false] /\ w'=w) \/ ∃ p,p ∈ l /\ p ∉ vs /\ v=.tuple #[.bool true,.string p.1,p.2] /\ SRng w' m r l (vs ++ [p]) /\ Keeps (·=r) w w' /\
  ∀ u,u.heap[m]?=w'.heap[m]? -> u.heap[r]?=w'.heap[r]? -> (Instr.entry (.pointer (some ⟨r,0,none⟩))).run P u=.ok (.tuple #[.string p.1,p.2]) u
theorem z70 {vs:List (ByteArray × Value)} {r:Nat} (h:SRng w m r l vs) (hs:a.eval s=.pointer (some ⟨r,0,none⟩)):∃ v w',(execOp a.eval ⟨dst,.next s false,ty,pos,aft,gd⟩).run P w=.ok (.value v) w' /\ IsNext P w m r l vs v w':=by
 rcases h.next (P:=P) ty with ⟨h1,h2⟩ | ⟨p,w',h1,h2,h3,h4⟩
 ·exact ⟨_,w,by unfold execOp;simp only [hs,Sem.run_bind,h2,Result.andThen_ok,Sem.run_pure],.inl ⟨h1,rfl,rfl⟩⟩
 ·exact ⟨_,w',by unfold execOp;simp only [hs,Sem.run_bind,h3,Result.andThen_ok,Sem.run_pure],.inr ⟨p,h1,h2,rfl,h4⟩⟩
theorem z5p {v:Value} {r:Nat} (h:(Instr.entry (.pointer (some ⟨r,0,none⟩))).run P w=.ok v w) (hs:a.eval s=.pointer (some ⟨r,0,none⟩)):(execOp a.eval ⟨dst,.entry s,ty,pos,aft,gd⟩).run P w=.ok (.value v) w:=by
 unfold execOp;simp only [hs,Sem.run_bind,h,Result.andThen_ok,Sem.run_pure]
end
section
variable {ops:Array Oper} {rest:List Oper} {dst:Option Tmp} {s x y:Operand} {ty:TypeId} {pos:String} {aft:Array Edge} {gd:Option (Nat × Bool)} {a:Act} {Q:Exit -> Act -> World -> Prop}
theorem stop_mapUpdate (h:At (wpList P ops Q (⟨dst,.mapUpdate t s x y,ty,pos,aft,gd⟩ :: rest) a w)):wpList P ops Q (⟨dst,.mapUpdate t s x y,ty,pos,aft,gd⟩ :: rest) a w:=h
theorem stop_delete (h:At (wpList P ops Q (⟨dst,.call ⟨.builtin .delete,#[s,x],#[t,k]⟩,ty,pos,aft,gd⟩ :: rest) a w)):wpList P ops Q (⟨dst,.call ⟨.builtin .delete,#[s,x],#[t,k]⟩,ty,pos,aft,gd⟩ :: rest) a w:=h
theorem z9s (h:At (wpList P ops Q (⟨dst,.range t s,ty,pos,aft,gd⟩ :: rest) a w)):wpList P ops Q (⟨dst,.range t s,ty,pos,aft,gd⟩ :: rest) a w:=h
theorem z4v {b:Bool} (h:At (wpList P ops Q (⟨dst,.next s b,ty,pos,aft,gd⟩ :: rest) a w)):wpList P ops Q (⟨dst,.next s b,ty,pos,aft,gd⟩ :: rest) a w:=h
theorem z43 (h:At (wpList P ops Q (⟨dst,.entry s,ty,pos,aft,gd⟩ :: rest) a w)):wpList P ops Q (⟨dst,.entry s,ty,pos,aft,gd⟩ :: rest) a w:=h
end
end Go.Lk
end
section
namespace Go.Lk
def vsOp:Op -> Bool
  | .load t _=>t == 106 || t == 76
  | .alloc _ | .store _ _ _ | .makeMap _ none | .range _ _ | .next _ _ | .entry _ | .buildSlice _ _ _ | .mapUpdate _ _ _ _ | .lookup _ _ _ _ | .box _ _=>true
  | .call ⟨.builtin .append,_,_⟩ | .call ⟨.builtin .delete,_,_⟩=>true
  | _=>false
theorem qv {P:Program} {ops:Array Oper} {rest:List Oper} {o:Oper} {a:Act} {w:World} {Q:Exit -> Act -> World -> Prop} (h:vsOp o.op=true) (g:At (wpList P ops Q (o :: rest) a w)):wpList P ops Q (o :: rest) a w:=g
end Go.Lk
end
section
namespace Go.Vfs
open Go.Lk Go.RowKit
structure Fl where
 b:List Nat
 lasts:Nat
structure Stp where
 act:Nat
 name:ByteArray
 to:ByteArray
 f:Option Nat
structure Dk where
 files:List (ByteArray × Nat)
 lasting:List (ByteArray × Nat)
 steps:List Stp
 cap:Int
 fuse:Int
 fn:Int
 fe:Int
 dead:Bool
 changes:Int
def ptr:Option Nat -> Value
 | none=>.pointer none
 | some b=>.pointer (some ⟨b,0,none⟩)
def vals (l:List (ByteArray × Nat)):List (ByteArray × Value):=l.map fun p=>(p.1,.pointer (some ⟨p.2,0,none⟩))
def stp (s:Stp):List Value:=[.int .i64 (s.act:Nat),.string s.name,.string s.to,ptr s.f]
def dcs (m1 m2:Nat) (sv:Value) (D:Dk):Array Value:=#[.map (some m1),.map (some m2),sv,.int .i64 D.cap,.int .i64 D.fuse,.int .i64 D.fn,.int .i64 D.fe,.bool D.dead,.int .i64 D.changes]
def chg (D:Dk):Dk × Nat × Int :=
 let D1:Dk:={ D with changes:=D.changes + 1,fuse:=if 0 < D.fuse then D.fuse - 1 else D.fuse }
 if D.fe ≠ 0 /\ ¬ 0 < D.fn then ({ D1 with fn:=0,fe:=0 },if D.fe=9 then 2 else 0,D.fe)
 else
  let D2:Dk:=if D.fe ≠ 0 then { D1 with fn:=D.fn - 1 } else D1
  if D.fuse=0 then ({ D2 with dead:=true },3,8) else (D2,1,0)
end Go.Vfs
namespace Go.Proofs.YtpjomdmjohjheaaGreatDoor
open Go.RowKit Go.Lk Go.Vfs
theorem smT:SmT Tryz.prog 71 9 104:=⟨Tryz.underlying71,Tryz.underlying9⟩
theorem z1z (d m1:Nat) (m2 sv:Value) (rest:List Value) (w:World) (h:w.cell? ⟨d,0,none⟩=some (.map (some m1))):Calls Tryz.prog 94 #[.pointer (some ⟨d,0,none⟩)] w fun e w'=>e=.returned (.bool true) /\ w=w':=by
 have q:∀ (w:World) (r:Option Nat),(binOp .neq 71 (.map r) (.map none)).run Tryz.prog w=.ok (.bool (!r.isNone)) w:=fun w r=>run_neq_map_nil w _ _ _ r Tryz.underlying71;go_enter Tryz.func94,Tryz.ntmps94;go_wp2;go_ret;exact ⟨rfl,rfl⟩
theorem zdh (w:World):Calls Tryz.prog 94 #[.pointer none] w fun e w'=>e=.returned (.bool false) /\ w=w':=by
 go_enter Tryz.func94,Tryz.ntmps94;go_wp2;go_ret;exact ⟨rfl,rfl⟩
theorem zbp (d:Nat) (w:World) (h:w.cell? ⟨d,0,none⟩=some (.map none)):Calls Tryz.prog 94 #[.pointer (some ⟨d,0,none⟩)] w fun e w'=>e=.returned (.bool false) /\ w=w':=by
 have q:∀ (w:World) (r:Option Nat),(binOp .neq 71 (.map r) (.map none)).run Tryz.prog w=.ok (.bool (!r.isNone)) w:=fun w r=>run_neq_map_nil w _ _ _ r Tryz.underlying71;go_enter Tryz.func94,Tryz.ntmps94;go_wp2;go_ret;exact ⟨rfl,rfl⟩
theorem z00 (e:Int) (w:World):Calls Tryz.prog 15 #[.int .i64 e] w fun r w'=>r=.returned (.int .i64 e) /\ w=w':=by
 go_enter Tryz.func15,Tryz.ntmps15;go_wp2;go_ret;exact ⟨rfl,rfl⟩
theorem z3y (w:World):Calls Tryz.prog 89 #[] w fun r w'=>(∃ v,r=.returned v) /\ w=w':=by
 go_enter Tryz.func89,Tryz.ntmps89;go_wp2;go_end0;exact ⟨⟨_,rfl⟩,rfl⟩
end Go.Proofs.YtpjomdmjohjheaaGreatDoor
end
section
namespace Go.Proofs.YtpjomdmjohjheaaGreatDoor
open Go.RowKit Go.Lk Go.Vfs
theorem cells9 {w:World} {d m1 m2:Nat} {sv:Value} {D:Dk} (h:w.heap[d]?=some (.cells (dcs m1 m2 sv D) 76 (0,0))) :
  (∀ u:Sub w,u.wd.cell? ⟨d,0,none⟩=some (.map (some m1))) /\ (∀ u:Sub w,u.wd.cell? ⟨d,1,none⟩=some (.map (some m2))) /\ (∀ u:Sub w,u.wd.cell? ⟨d,2,none⟩=some sv) /\ (∀ u:Sub w,u.wd.cell? ⟨d,3,none⟩=some (.int .i64 D.cap)) /\
  (∀ u:Sub w,u.wd.cell? ⟨d,4,none⟩=some (.int .i64 D.fuse)) /\ (∀ u:Sub w,u.wd.cell? ⟨d,5,none⟩=some (.int .i64 D.fn)) /\ (∀ u:Sub w,u.wd.cell? ⟨d,6,none⟩=some (.int .i64 D.fe)) /\ (∀ u:Sub w,u.wd.cell? ⟨d,7,none⟩=some (.bool D.dead)) /\ ∀ u:Sub w,u.wd.cell? ⟨d,8,none⟩=some (.int .i64 D.changes):=by
 have k:∀ (u:Sub w) (i:Nat),u.wd.cell? ⟨d,i,none⟩=(dcs m1 m2 sv D)[i]?:=fun u i=>cell_of_block (u.k.nb h);exact ⟨fun u=>k u 0,fun u=>k u 1,fun u=>k u 2,fun u=>k u 3,fun u=>k u 4,fun u=>k u 5,fun u=>k u 6,fun u=>k u 7,fun u=>k u 8⟩
theorem z0t (d m1 m2:Nat) (sv:Value) (D:Dk) (w:World) (h:w.heap[d]?=some (.cells (dcs m1 m2 sv D) 76 (0,0))) (hd:D.dead=true) (f1 f2 f3:Value) :
  Calls Tryz.prog 87 #[.pointer (some ⟨d,0,none⟩),f1,f2,f3] w fun e w'=>e=.returned (.int .i64 8) /\ w=w':=by
 have c7:w.cell? ⟨d,7,none⟩=some (.bool true):=by rw [cell_of_block h,<- hd];rfl
 clear h hd;go_enter Tryz.func87,Tryz.ntmps87;go_wp2;go_ret;exact ⟨rfl,rfl⟩
def Ways (w:World) (d m1 m2:Nat) (sv:Value) (D:Dk) (k:Nat) (fw fp ft:Nat) (cw cp ct:Array Value) (R:World -> Prop):Prop :=
 ∀ w1,w1.heap[d]?=some (.cells (dcs m1 m2 sv D) 76 (0,0)) -> Keeps (·=d) w w1 ->
  (k=0 -> R w1) /\ (k=1 -> Calls Tryz.prog fw cw w1 fun e w'=>(∃ v,e=.returned v) /\ R w') /\ (k=2 -> Calls Tryz.prog fp cp w1 fun e w'=>(∃ v,e=.returned v) /\ R w') /\ (k=3 -> Calls Tryz.prog ft ct w1 fun e w'=>(∃ v,e=.returned v) /\ R w')
theorem z1a (d m1 m2:Nat) (sv:Value) (D:Dk) (w:World) (h:w.heap[d]?=some (.cells (dcs m1 m2 sv D) 76 (0,0))) (hd:D.dead=false) (hch:0 <= D.changes /\ D.changes <= 1000000) (hfu:-1 <= D.fuse /\ D.fuse <= 9223372036854775807) (hfn:-1 <= D.fn /\ D.fn <= 9223372036854775807) (hfe:D.fe=0 \/ D.fe=5 \/ D.fe=9)
  (fw fp ft:Nat) (cw cp ct:Array Value) (ew:∀ args w,(callFunc fw args).run Tryz.prog w=.ok (.enter fw args) w) (ep:∀ args w,(callFunc fp args).run Tryz.prog w=.ok (.enter fp args) w) (et:∀ args w,(callFunc ft args).run Tryz.prog w=.ok (.enter ft args) w)
  (R:World -> Prop) (hR:Ways w d m1 m2 sv (chg D).1 (chg D).2.1 fw fp ft cw cp ct R) :
  Calls Tryz.prog 87 #[.pointer (some ⟨d,0,none⟩),.func (.func fw) #[] cw,.func (.func fp) #[] cp,.func (.func ft) #[] ct] w fun e w'=>e=.returned (.int .i64 (chg D).2.2) /\ R w':=by
 obtain ⟨files,lasting,steps,cap,fu,fn,fe,dead,ch⟩:=D;simp only at hd hch hfu hfn hfe;subst hd;have c7:w.cell? ⟨d,7,none⟩=some (.bool false):=by rw [cell_of_block h];rfl
 have c8:w.cell? ⟨d,8,none⟩=some (.int .i64 ch):=by rw [cell_of_block h];rfl
 have HR:=qq hR;have H:=qq h;clear h hR;have hb59:∀ W:World,(Instr.build 74 #[]).run Tryz.prog W=.ok (.agg #[.int .i64 0,.int .i64 0]) W:=fun _=>by kernel_rfl
 have b0:=H.out;clear H;rcases hfe with rfl | rfl | rfl
 ·
  rcases Int.lt_trichotomy fu 0 with hu | rfl | hu
  ·
   skip
   have hu2:¬ 0 < fu:=by omega
   have hu3:¬ fu=0:=by omega
   have hc:chg ⟨files,lasting,steps,cap,fu,fn,0,false,ch⟩=(⟨files,lasting,steps,cap,fu,fn,0,false,ch + 1⟩,1,0):=by simp [chg,hu,hu2,hu3]
   rw [hc] at HR ⊢;clear hc hu3;go_enter Tryz.func87,Tryz.ntmps87;go_wp2_with (first | go_skip | (with_reducible refine zf (t:=3) ?_) | (with_reducible refine zf (t:=4) ?_) | (with_reducible refine zf (t:=74) ?_))
   refine za (zc rfl (zd (v:=.int .i64 (ch + 1)) (n:=1) (by kernel_rfl) (by rfl) (by rfl) b0 (by rfl) (by simp [dcs,Value.cells]) (by simp [Value.cells,Value.oneCell'])) ?_);intro w1 s1;simp only [Nat.reduceAdd,qn];have b1:w1.heap[d]?=some (.cells (dcs m1 m2 sv ⟨files,lasting,steps,cap,fu,fn,0,false,ch + 1⟩) 76 (0,0)):=s1.blk;have k1:Keeps (·=d) w w1:=s1.k;have c41:w1.cell? ⟨d,4,none⟩=some (.int .i64 (fu)):=(cell_of_block b1).trans rfl;have c51:w1.cell? ⟨d,5,none⟩=some (.int .i64 (fn)):=(cell_of_block b1).trans rfl;have c61:w1.cell? ⟨d,6,none⟩=some (.int .i64 (0)):=(cell_of_block b1).trans rfl;clear s1;obtain ⟨r0,r1,r2,r3⟩:=HR.out w1 b1 k1;have HF:=qq (r1 rfl);clear r0 r1 r2 r3;go_wp2_with fail;refine HF.out.mono ?_;rintro _ w9 ⟨⟨v,rfl⟩,hr⟩;have HR9:=qq hr;clear hr;go_wp2;go_ret;exact ⟨rfl,HR9.out⟩
  ·
   skip
   skip
   have hc:chg ⟨files,lasting,steps,cap,0,fn,0,false,ch⟩=(⟨files,lasting,steps,cap,0,fn,0,true,ch + 1⟩,3,8):=by simp [chg]
   rw [hc] at HR ⊢;clear hc
   skip
   go_enter Tryz.func87,Tryz.ntmps87;go_wp2_with (first | go_skip | (with_reducible refine zf (t:=3) ?_) | (with_reducible refine zf (t:=4) ?_) | (with_reducible refine zf (t:=74) ?_))
   refine za (zc rfl (zd (v:=.int .i64 (ch + 1)) (n:=1) (by kernel_rfl) (by rfl) (by rfl) b0 (by rfl) (by simp [dcs,Value.cells]) (by simp [Value.cells,Value.oneCell'])) ?_);intro w1 s1;simp only [Nat.reduceAdd,qn];have b1:w1.heap[d]?=some (.cells (dcs m1 m2 sv ⟨files,lasting,steps,cap,0,fn,0,false,ch + 1⟩) 76 (0,0)):=s1.blk;have k1:Keeps (·=d) w w1:=s1.k;have c41:w1.cell? ⟨d,4,none⟩=some (.int .i64 (0)):=(cell_of_block b1).trans rfl;have c51:w1.cell? ⟨d,5,none⟩=some (.int .i64 (fn)):=(cell_of_block b1).trans rfl;have c61:w1.cell? ⟨d,6,none⟩=some (.int .i64 (0)):=(cell_of_block b1).trans rfl;clear s1;go_wp2_with (first | go_skip | (with_reducible refine zf (t:=3) ?_) | (with_reducible refine zf (t:=4) ?_) | (with_reducible refine zf (t:=74) ?_))
   refine za (zc rfl (zd (v:=.bool true) (n:=1) (by kernel_rfl) (by rfl) (by rfl) b1 (by rfl) (by simp [dcs,Value.cells]) (by simp [Value.cells,Value.oneCell'])) ?_);intro w2 s2;simp only [Nat.reduceAdd,qn];have b2:w2.heap[d]?=some (.cells (dcs m1 m2 sv ⟨files,lasting,steps,cap,0,fn,0,true,ch + 1⟩) 76 (0,0)):=s2.blk;have k2:Keeps (·=d) w w2:=k1.trans s2.k (fun _ _ e=>e);have c42:w2.cell? ⟨d,4,none⟩=some (.int .i64 (0)):=(cell_of_block b2).trans rfl;have c52:w2.cell? ⟨d,5,none⟩=some (.int .i64 (fn)):=(cell_of_block b2).trans rfl;have c62:w2.cell? ⟨d,6,none⟩=some (.int .i64 (0)):=(cell_of_block b2).trans rfl;clear s2 c41 c51 c61;obtain ⟨r0,r1,r2,r3⟩:=HR.out w2 b2 k2;have HF:=qq (r3 rfl);clear r0 r1 r2 r3;go_wp2_with fail;refine HF.out.mono ?_;rintro _ w9 ⟨⟨v,rfl⟩,hr⟩;have HR9:=qq hr;clear hr;go_wp2;go_ret;exact ⟨rfl,HR9.out⟩
  ·
   skip
   skip
   have hu3:¬ fu=0:=by omega
   have hc:chg ⟨files,lasting,steps,cap,fu,fn,0,false,ch⟩=(⟨files,lasting,steps,cap,fu - 1,fn,0,false,ch + 1⟩,1,0):=by simp [chg,hu,hu3]
   rw [hc] at HR ⊢;clear hc hu3;go_enter Tryz.func87,Tryz.ntmps87;go_wp2_with (first | go_skip | (with_reducible refine zf (t:=3) ?_) | (with_reducible refine zf (t:=4) ?_) | (with_reducible refine zf (t:=74) ?_))
   refine za (zc rfl (zd (v:=.int .i64 (ch + 1)) (n:=1) (by kernel_rfl) (by rfl) (by rfl) b0 (by rfl) (by simp [dcs,Value.cells]) (by simp [Value.cells,Value.oneCell'])) ?_);intro w1 s1;simp only [Nat.reduceAdd,qn];have b1:w1.heap[d]?=some (.cells (dcs m1 m2 sv ⟨files,lasting,steps,cap,fu,fn,0,false,ch + 1⟩) 76 (0,0)):=s1.blk;have k1:Keeps (·=d) w w1:=s1.k;have c41:w1.cell? ⟨d,4,none⟩=some (.int .i64 (fu)):=(cell_of_block b1).trans rfl;have c51:w1.cell? ⟨d,5,none⟩=some (.int .i64 (fn)):=(cell_of_block b1).trans rfl;have c61:w1.cell? ⟨d,6,none⟩=some (.int .i64 (0)):=(cell_of_block b1).trans rfl;clear s1;go_wp2_with (first | go_skip | (with_reducible refine zf (t:=3) ?_) | (with_reducible refine zf (t:=4) ?_) | (with_reducible refine zf (t:=74) ?_))
   refine za (zc rfl (zd (v:=.int .i64 (fu - 1)) (n:=1) (by kernel_rfl) (by rfl) (by rfl) b1 (by rfl) (by simp [dcs,Value.cells]) (by simp [Value.cells,Value.oneCell'])) ?_);intro w2 s2;simp only [Nat.reduceAdd,qn];have b2:w2.heap[d]?=some (.cells (dcs m1 m2 sv ⟨files,lasting,steps,cap,fu - 1,fn,0,false,ch + 1⟩) 76 (0,0)):=s2.blk;have k2:Keeps (·=d) w w2:=k1.trans s2.k (fun _ _ e=>e);have c42:w2.cell? ⟨d,4,none⟩=some (.int .i64 (fu - 1)):=(cell_of_block b2).trans rfl;have c52:w2.cell? ⟨d,5,none⟩=some (.int .i64 (fn)):=(cell_of_block b2).trans rfl;have c62:w2.cell? ⟨d,6,none⟩=some (.int .i64 (0)):=(cell_of_block b2).trans rfl;clear s2 c41 c51 c61;obtain ⟨r0,r1,r2,r3⟩:=HR.out w2 b2 k2;have HF:=qq (r1 rfl);clear r0 r1 r2 r3;go_wp2_with fail;refine HF.out.mono ?_;rintro _ w9 ⟨⟨v,rfl⟩,hr⟩;have HR9:=qq hr;clear hr;go_wp2;go_ret;exact ⟨rfl,HR9.out⟩
 ·
  rcases Int.lt_trichotomy fu 0 with hu | rfl | hu
  ·
   by_cases hn:0 < fn
   ·
    skip
    have hu2:¬ 0 < fu:=by omega
    have hu3:¬ fu=0:=by omega
    have hc:chg ⟨files,lasting,steps,cap,fu,fn,5,false,ch⟩=(⟨files,lasting,steps,cap,fu,fn - 1,5,false,ch + 1⟩,1,0):=by simp [chg,hu,hu2,hu3,hn]
    rw [hc] at HR ⊢;clear hc hu3;go_enter Tryz.func87,Tryz.ntmps87;go_wp2_with (first | go_skip | (with_reducible refine zf (t:=3) ?_) | (with_reducible refine zf (t:=4) ?_) | (with_reducible refine zf (t:=74) ?_))
    refine za (zc rfl (zd (v:=.int .i64 (ch + 1)) (n:=1) (by kernel_rfl) (by rfl) (by rfl) b0 (by rfl) (by simp [dcs,Value.cells]) (by simp [Value.cells,Value.oneCell'])) ?_);intro w1 s1;simp only [Nat.reduceAdd,qn];have b1:w1.heap[d]?=some (.cells (dcs m1 m2 sv ⟨files,lasting,steps,cap,fu,fn,5,false,ch + 1⟩) 76 (0,0)):=s1.blk;have k1:Keeps (·=d) w w1:=s1.k;have c41:w1.cell? ⟨d,4,none⟩=some (.int .i64 (fu)):=(cell_of_block b1).trans rfl;have c51:w1.cell? ⟨d,5,none⟩=some (.int .i64 (fn)):=(cell_of_block b1).trans rfl;have c61:w1.cell? ⟨d,6,none⟩=some (.int .i64 (5)):=(cell_of_block b1).trans rfl;clear s1;go_wp2_with (first | go_skip | (with_reducible refine zf (t:=3) ?_) | (with_reducible refine zf (t:=4) ?_) | (with_reducible refine zf (t:=74) ?_))
    refine za (zc rfl (zd (v:=.int .i64 (fn - 1)) (n:=1) (by kernel_rfl) (by rfl) (by rfl) b1 (by rfl) (by simp [dcs,Value.cells]) (by simp [Value.cells,Value.oneCell'])) ?_);intro w2 s2;simp only [Nat.reduceAdd,qn];have b2:w2.heap[d]?=some (.cells (dcs m1 m2 sv ⟨files,lasting,steps,cap,fu,fn - 1,5,false,ch + 1⟩) 76 (0,0)):=s2.blk;have k2:Keeps (·=d) w w2:=k1.trans s2.k (fun _ _ e=>e);have c42:w2.cell? ⟨d,4,none⟩=some (.int .i64 (fu)):=(cell_of_block b2).trans rfl;have c52:w2.cell? ⟨d,5,none⟩=some (.int .i64 (fn - 1)):=(cell_of_block b2).trans rfl;have c62:w2.cell? ⟨d,6,none⟩=some (.int .i64 (5)):=(cell_of_block b2).trans rfl;clear s2 c41 c51 c61;obtain ⟨r0,r1,r2,r3⟩:=HR.out w2 b2 k2;have HF:=qq (r1 rfl);clear r0 r1 r2 r3;go_wp2_with fail;refine HF.out.mono ?_;rintro _ w9 ⟨⟨v,rfl⟩,hr⟩;have HR9:=qq hr;clear hr;go_wp2;go_ret;exact ⟨rfl,HR9.out⟩
   ·
    skip
    have hu2:¬ 0 < fu:=by omega
    have hu3:¬ fu=0:=by omega
    have hc:chg ⟨files,lasting,steps,cap,fu,fn,5,false,ch⟩=(⟨files,lasting,steps,cap,fu,0,0,false,ch + 1⟩,0,5):=by simp [chg,hu,hu2,hu3,hn]
    rw [hc] at HR ⊢;clear hc hu3;go_enter Tryz.func87,Tryz.ntmps87;go_wp2_with (first | go_skip | (with_reducible refine zf (t:=3) ?_) | (with_reducible refine zf (t:=4) ?_) | (with_reducible refine zf (t:=74) ?_))
    refine za (zc rfl (zd (v:=.int .i64 (ch + 1)) (n:=1) (by kernel_rfl) (by rfl) (by rfl) b0 (by rfl) (by simp [dcs,Value.cells]) (by simp [Value.cells,Value.oneCell'])) ?_);intro w1 s1;simp only [Nat.reduceAdd,qn];have b1:w1.heap[d]?=some (.cells (dcs m1 m2 sv ⟨files,lasting,steps,cap,fu,fn,5,false,ch + 1⟩) 76 (0,0)):=s1.blk;have k1:Keeps (·=d) w w1:=s1.k;have c41:w1.cell? ⟨d,4,none⟩=some (.int .i64 (fu)):=(cell_of_block b1).trans rfl;have c51:w1.cell? ⟨d,5,none⟩=some (.int .i64 (fn)):=(cell_of_block b1).trans rfl;have c61:w1.cell? ⟨d,6,none⟩=some (.int .i64 (5)):=(cell_of_block b1).trans rfl;clear s1;go_wp2_with (first | go_skip | (with_reducible refine zf (t:=3) ?_) | (with_reducible refine zf (t:=4) ?_) | (with_reducible refine zf (t:=74) ?_))
    refine za (zc rfl (zd (v:=.agg #[.int .i64 0,.int .i64 0]) (n:=2) (by kernel_rfl) (by rfl) (by rfl) b1 (by rfl) (by simp [dcs,Value.cells]) (by simp [Value.cells,Value.oneCell'])) ?_);intro w2 s2;simp only [Nat.reduceAdd,qn];have b2:w2.heap[d]?=some (.cells (dcs m1 m2 sv ⟨files,lasting,steps,cap,fu,0,0,false,ch + 1⟩) 76 (0,0)):=s2.blk;have k2:Keeps (·=d) w w2:=k1.trans s2.k (fun _ _ e=>e);have c42:w2.cell? ⟨d,4,none⟩=some (.int .i64 (fu)):=(cell_of_block b2).trans rfl;have c52:w2.cell? ⟨d,5,none⟩=some (.int .i64 (0)):=(cell_of_block b2).trans rfl;have c62:w2.cell? ⟨d,6,none⟩=some (.int .i64 (0)):=(cell_of_block b2).trans rfl;clear s2 c41 c51 c61;obtain ⟨r0,r1,r2,r3⟩:=HR.out w2 b2 k2;have HF:=qq (r0 rfl);clear r0 r1 r2 r3;go_wp2;go_ret;exact ⟨rfl,HF.out⟩
  ·
   by_cases hn:0 < fn
   ·
    skip
    skip
    have hc:chg ⟨files,lasting,steps,cap,0,fn,5,false,ch⟩=(⟨files,lasting,steps,cap,0,fn - 1,5,true,ch + 1⟩,3,8):=by simp [chg,hn]
    rw [hc] at HR ⊢;clear hc
    skip
    go_enter Tryz.func87,Tryz.ntmps87;go_wp2_with (first | go_skip | (with_reducible refine zf (t:=3) ?_) | (with_reducible refine zf (t:=4) ?_) | (with_reducible refine zf (t:=74) ?_))
    refine za (zc rfl (zd (v:=.int .i64 (ch + 1)) (n:=1) (by kernel_rfl) (by rfl) (by rfl) b0 (by rfl) (by simp [dcs,Value.cells]) (by simp [Value.cells,Value.oneCell'])) ?_);intro w1 s1;simp only [Nat.reduceAdd,qn];have b1:w1.heap[d]?=some (.cells (dcs m1 m2 sv ⟨files,lasting,steps,cap,0,fn,5,false,ch + 1⟩) 76 (0,0)):=s1.blk;have k1:Keeps (·=d) w w1:=s1.k;have c41:w1.cell? ⟨d,4,none⟩=some (.int .i64 (0)):=(cell_of_block b1).trans rfl;have c51:w1.cell? ⟨d,5,none⟩=some (.int .i64 (fn)):=(cell_of_block b1).trans rfl;have c61:w1.cell? ⟨d,6,none⟩=some (.int .i64 (5)):=(cell_of_block b1).trans rfl;clear s1;go_wp2_with (first | go_skip | (with_reducible refine zf (t:=3) ?_) | (with_reducible refine zf (t:=4) ?_) | (with_reducible refine zf (t:=74) ?_))
    refine za (zc rfl (zd (v:=.int .i64 (fn - 1)) (n:=1) (by kernel_rfl) (by rfl) (by rfl) b1 (by rfl) (by simp [dcs,Value.cells]) (by simp [Value.cells,Value.oneCell'])) ?_);intro w2 s2;simp only [Nat.reduceAdd,qn];have b2:w2.heap[d]?=some (.cells (dcs m1 m2 sv ⟨files,lasting,steps,cap,0,fn - 1,5,false,ch + 1⟩) 76 (0,0)):=s2.blk;have k2:Keeps (·=d) w w2:=k1.trans s2.k (fun _ _ e=>e);have c42:w2.cell? ⟨d,4,none⟩=some (.int .i64 (0)):=(cell_of_block b2).trans rfl;have c52:w2.cell? ⟨d,5,none⟩=some (.int .i64 (fn - 1)):=(cell_of_block b2).trans rfl;have c62:w2.cell? ⟨d,6,none⟩=some (.int .i64 (5)):=(cell_of_block b2).trans rfl;clear s2 c41 c51 c61;go_wp2_with (first | go_skip | (with_reducible refine zf (t:=3) ?_) | (with_reducible refine zf (t:=4) ?_) | (with_reducible refine zf (t:=74) ?_))
    refine za (zc rfl (zd (v:=.bool true) (n:=1) (by kernel_rfl) (by rfl) (by rfl) b2 (by rfl) (by simp [dcs,Value.cells]) (by simp [Value.cells,Value.oneCell'])) ?_);intro w3 s3;simp only [Nat.reduceAdd,qn];have b3:w3.heap[d]?=some (.cells (dcs m1 m2 sv ⟨files,lasting,steps,cap,0,fn - 1,5,true,ch + 1⟩) 76 (0,0)):=s3.blk;have k3:Keeps (·=d) w w3:=k2.trans s3.k (fun _ _ e=>e);have c43:w3.cell? ⟨d,4,none⟩=some (.int .i64 (0)):=(cell_of_block b3).trans rfl;have c53:w3.cell? ⟨d,5,none⟩=some (.int .i64 (fn - 1)):=(cell_of_block b3).trans rfl;have c63:w3.cell? ⟨d,6,none⟩=some (.int .i64 (5)):=(cell_of_block b3).trans rfl;clear s3 c42 c52 c62;obtain ⟨r0,r1,r2,r3⟩:=HR.out w3 b3 k3;have HF:=qq (r3 rfl);clear r0 r1 r2 r3;go_wp2_with fail;refine HF.out.mono ?_;rintro _ w9 ⟨⟨v,rfl⟩,hr⟩;have HR9:=qq hr;clear hr;go_wp2;go_ret;exact ⟨rfl,HR9.out⟩
   ·
    skip
    skip
    have hc:chg ⟨files,lasting,steps,cap,0,fn,5,false,ch⟩=(⟨files,lasting,steps,cap,0,0,0,false,ch + 1⟩,0,5):=by simp [chg,hn]
    rw [hc] at HR ⊢;clear hc
    skip
    go_enter Tryz.func87,Tryz.ntmps87;go_wp2_with (first | go_skip | (with_reducible refine zf (t:=3) ?_) | (with_reducible refine zf (t:=4) ?_) | (with_reducible refine zf (t:=74) ?_))
    refine za (zc rfl (zd (v:=.int .i64 (ch + 1)) (n:=1) (by kernel_rfl) (by rfl) (by rfl) b0 (by rfl) (by simp [dcs,Value.cells]) (by simp [Value.cells,Value.oneCell'])) ?_);intro w1 s1;simp only [Nat.reduceAdd,qn];have b1:w1.heap[d]?=some (.cells (dcs m1 m2 sv ⟨files,lasting,steps,cap,0,fn,5,false,ch + 1⟩) 76 (0,0)):=s1.blk;have k1:Keeps (·=d) w w1:=s1.k;have c41:w1.cell? ⟨d,4,none⟩=some (.int .i64 (0)):=(cell_of_block b1).trans rfl;have c51:w1.cell? ⟨d,5,none⟩=some (.int .i64 (fn)):=(cell_of_block b1).trans rfl;have c61:w1.cell? ⟨d,6,none⟩=some (.int .i64 (5)):=(cell_of_block b1).trans rfl;clear s1;go_wp2_with (first | go_skip | (with_reducible refine zf (t:=3) ?_) | (with_reducible refine zf (t:=4) ?_) | (with_reducible refine zf (t:=74) ?_))
    refine za (zc rfl (zd (v:=.agg #[.int .i64 0,.int .i64 0]) (n:=2) (by kernel_rfl) (by rfl) (by rfl) b1 (by rfl) (by simp [dcs,Value.cells]) (by simp [Value.cells,Value.oneCell'])) ?_);intro w2 s2;simp only [Nat.reduceAdd,qn];have b2:w2.heap[d]?=some (.cells (dcs m1 m2 sv ⟨files,lasting,steps,cap,0,0,0,false,ch + 1⟩) 76 (0,0)):=s2.blk;have k2:Keeps (·=d) w w2:=k1.trans s2.k (fun _ _ e=>e);have c42:w2.cell? ⟨d,4,none⟩=some (.int .i64 (0)):=(cell_of_block b2).trans rfl;have c52:w2.cell? ⟨d,5,none⟩=some (.int .i64 (0)):=(cell_of_block b2).trans rfl;have c62:w2.cell? ⟨d,6,none⟩=some (.int .i64 (0)):=(cell_of_block b2).trans rfl;clear s2 c41 c51 c61;obtain ⟨r0,r1,r2,r3⟩:=HR.out w2 b2 k2;have HF:=qq (r0 rfl);clear r0 r1 r2 r3;go_wp2;go_ret;exact ⟨rfl,HF.out⟩
  ·
   by_cases hn:0 < fn
   ·
    skip
    skip
    have hu3:¬ fu=0:=by omega
    have hc:chg ⟨files,lasting,steps,cap,fu,fn,5,false,ch⟩=(⟨files,lasting,steps,cap,fu - 1,fn - 1,5,false,ch + 1⟩,1,0):=by simp [chg,hu,hu3,hn]
    rw [hc] at HR ⊢;clear hc hu3;go_enter Tryz.func87,Tryz.ntmps87;go_wp2_with (first | go_skip | (with_reducible refine zf (t:=3) ?_) | (with_reducible refine zf (t:=4) ?_) | (with_reducible refine zf (t:=74) ?_))
    refine za (zc rfl (zd (v:=.int .i64 (ch + 1)) (n:=1) (by kernel_rfl) (by rfl) (by rfl) b0 (by rfl) (by simp [dcs,Value.cells]) (by simp [Value.cells,Value.oneCell'])) ?_);intro w1 s1;simp only [Nat.reduceAdd,qn];have b1:w1.heap[d]?=some (.cells (dcs m1 m2 sv ⟨files,lasting,steps,cap,fu,fn,5,false,ch + 1⟩) 76 (0,0)):=s1.blk;have k1:Keeps (·=d) w w1:=s1.k;have c41:w1.cell? ⟨d,4,none⟩=some (.int .i64 (fu)):=(cell_of_block b1).trans rfl;have c51:w1.cell? ⟨d,5,none⟩=some (.int .i64 (fn)):=(cell_of_block b1).trans rfl;have c61:w1.cell? ⟨d,6,none⟩=some (.int .i64 (5)):=(cell_of_block b1).trans rfl;clear s1;go_wp2_with (first | go_skip | (with_reducible refine zf (t:=3) ?_) | (with_reducible refine zf (t:=4) ?_) | (with_reducible refine zf (t:=74) ?_))
    refine za (zc rfl (zd (v:=.int .i64 (fu - 1)) (n:=1) (by kernel_rfl) (by rfl) (by rfl) b1 (by rfl) (by simp [dcs,Value.cells]) (by simp [Value.cells,Value.oneCell'])) ?_);intro w2 s2;simp only [Nat.reduceAdd,qn];have b2:w2.heap[d]?=some (.cells (dcs m1 m2 sv ⟨files,lasting,steps,cap,fu - 1,fn,5,false,ch + 1⟩) 76 (0,0)):=s2.blk;have k2:Keeps (·=d) w w2:=k1.trans s2.k (fun _ _ e=>e);have c42:w2.cell? ⟨d,4,none⟩=some (.int .i64 (fu - 1)):=(cell_of_block b2).trans rfl;have c52:w2.cell? ⟨d,5,none⟩=some (.int .i64 (fn)):=(cell_of_block b2).trans rfl;have c62:w2.cell? ⟨d,6,none⟩=some (.int .i64 (5)):=(cell_of_block b2).trans rfl;clear s2 c41 c51 c61;go_wp2_with (first | go_skip | (with_reducible refine zf (t:=3) ?_) | (with_reducible refine zf (t:=4) ?_) | (with_reducible refine zf (t:=74) ?_))
    refine za (zc rfl (zd (v:=.int .i64 (fn - 1)) (n:=1) (by kernel_rfl) (by rfl) (by rfl) b2 (by rfl) (by simp [dcs,Value.cells]) (by simp [Value.cells,Value.oneCell'])) ?_);intro w3 s3;simp only [Nat.reduceAdd,qn];have b3:w3.heap[d]?=some (.cells (dcs m1 m2 sv ⟨files,lasting,steps,cap,fu - 1,fn - 1,5,false,ch + 1⟩) 76 (0,0)):=s3.blk;have k3:Keeps (·=d) w w3:=k2.trans s3.k (fun _ _ e=>e);have c43:w3.cell? ⟨d,4,none⟩=some (.int .i64 (fu - 1)):=(cell_of_block b3).trans rfl;have c53:w3.cell? ⟨d,5,none⟩=some (.int .i64 (fn - 1)):=(cell_of_block b3).trans rfl;have c63:w3.cell? ⟨d,6,none⟩=some (.int .i64 (5)):=(cell_of_block b3).trans rfl;clear s3 c42 c52 c62;obtain ⟨r0,r1,r2,r3⟩:=HR.out w3 b3 k3;have HF:=qq (r1 rfl);clear r0 r1 r2 r3;go_wp2_with fail;refine HF.out.mono ?_;rintro _ w9 ⟨⟨v,rfl⟩,hr⟩;have HR9:=qq hr;clear hr;go_wp2;go_ret;exact ⟨rfl,HR9.out⟩
   ·
    skip
    skip
    have hu3:¬ fu=0:=by omega
    have hc:chg ⟨files,lasting,steps,cap,fu,fn,5,false,ch⟩=(⟨files,lasting,steps,cap,fu - 1,0,0,false,ch + 1⟩,0,5):=by simp [chg,hu,hu3,hn]
    rw [hc] at HR ⊢;clear hc hu3;go_enter Tryz.func87,Tryz.ntmps87;go_wp2_with (first | go_skip | (with_reducible refine zf (t:=3) ?_) | (with_reducible refine zf (t:=4) ?_) | (with_reducible refine zf (t:=74) ?_))
    refine za (zc rfl (zd (v:=.int .i64 (ch + 1)) (n:=1) (by kernel_rfl) (by rfl) (by rfl) b0 (by rfl) (by simp [dcs,Value.cells]) (by simp [Value.cells,Value.oneCell'])) ?_);intro w1 s1;simp only [Nat.reduceAdd,qn];have b1:w1.heap[d]?=some (.cells (dcs m1 m2 sv ⟨files,lasting,steps,cap,fu,fn,5,false,ch + 1⟩) 76 (0,0)):=s1.blk;have k1:Keeps (·=d) w w1:=s1.k;have c41:w1.cell? ⟨d,4,none⟩=some (.int .i64 (fu)):=(cell_of_block b1).trans rfl;have c51:w1.cell? ⟨d,5,none⟩=some (.int .i64 (fn)):=(cell_of_block b1).trans rfl;have c61:w1.cell? ⟨d,6,none⟩=some (.int .i64 (5)):=(cell_of_block b1).trans rfl;clear s1;go_wp2_with (first | go_skip | (with_reducible refine zf (t:=3) ?_) | (with_reducible refine zf (t:=4) ?_) | (with_reducible refine zf (t:=74) ?_))
    refine za (zc rfl (zd (v:=.int .i64 (fu - 1)) (n:=1) (by kernel_rfl) (by rfl) (by rfl) b1 (by rfl) (by simp [dcs,Value.cells]) (by simp [Value.cells,Value.oneCell'])) ?_);intro w2 s2;simp only [Nat.reduceAdd,qn];have b2:w2.heap[d]?=some (.cells (dcs m1 m2 sv ⟨files,lasting,steps,cap,fu - 1,fn,5,false,ch + 1⟩) 76 (0,0)):=s2.blk;have k2:Keeps (·=d) w w2:=k1.trans s2.k (fun _ _ e=>e);have c42:w2.cell? ⟨d,4,none⟩=some (.int .i64 (fu - 1)):=(cell_of_block b2).trans rfl;have c52:w2.cell? ⟨d,5,none⟩=some (.int .i64 (fn)):=(cell_of_block b2).trans rfl;have c62:w2.cell? ⟨d,6,none⟩=some (.int .i64 (5)):=(cell_of_block b2).trans rfl;clear s2 c41 c51 c61;go_wp2_with (first | go_skip | (with_reducible refine zf (t:=3) ?_) | (with_reducible refine zf (t:=4) ?_) | (with_reducible refine zf (t:=74) ?_))
    refine za (zc rfl (zd (v:=.agg #[.int .i64 0,.int .i64 0]) (n:=2) (by kernel_rfl) (by rfl) (by rfl) b2 (by rfl) (by simp [dcs,Value.cells]) (by simp [Value.cells,Value.oneCell'])) ?_);intro w3 s3;simp only [Nat.reduceAdd,qn];have b3:w3.heap[d]?=some (.cells (dcs m1 m2 sv ⟨files,lasting,steps,cap,fu - 1,0,0,false,ch + 1⟩) 76 (0,0)):=s3.blk;have k3:Keeps (·=d) w w3:=k2.trans s3.k (fun _ _ e=>e);have c43:w3.cell? ⟨d,4,none⟩=some (.int .i64 (fu - 1)):=(cell_of_block b3).trans rfl;have c53:w3.cell? ⟨d,5,none⟩=some (.int .i64 (0)):=(cell_of_block b3).trans rfl;have c63:w3.cell? ⟨d,6,none⟩=some (.int .i64 (0)):=(cell_of_block b3).trans rfl;clear s3 c42 c52 c62;obtain ⟨r0,r1,r2,r3⟩:=HR.out w3 b3 k3;have HF:=qq (r0 rfl);clear r0 r1 r2 r3;go_wp2;go_ret;exact ⟨rfl,HF.out⟩
 ·
  rcases Int.lt_trichotomy fu 0 with hu | rfl | hu
  ·
   by_cases hn:0 < fn
   ·
    skip
    have hu2:¬ 0 < fu:=by omega
    have hu3:¬ fu=0:=by omega
    have hc:chg ⟨files,lasting,steps,cap,fu,fn,9,false,ch⟩=(⟨files,lasting,steps,cap,fu,fn - 1,9,false,ch + 1⟩,1,0):=by simp [chg,hu,hu2,hu3,hn]
    rw [hc] at HR ⊢;clear hc hu3;go_enter Tryz.func87,Tryz.ntmps87;go_wp2_with (first | go_skip | (with_reducible refine zf (t:=3) ?_) | (with_reducible refine zf (t:=4) ?_) | (with_reducible refine zf (t:=74) ?_))
    refine za (zc rfl (zd (v:=.int .i64 (ch + 1)) (n:=1) (by kernel_rfl) (by rfl) (by rfl) b0 (by rfl) (by simp [dcs,Value.cells]) (by simp [Value.cells,Value.oneCell'])) ?_);intro w1 s1;simp only [Nat.reduceAdd,qn];have b1:w1.heap[d]?=some (.cells (dcs m1 m2 sv ⟨files,lasting,steps,cap,fu,fn,9,false,ch + 1⟩) 76 (0,0)):=s1.blk;have k1:Keeps (·=d) w w1:=s1.k;have c41:w1.cell? ⟨d,4,none⟩=some (.int .i64 (fu)):=(cell_of_block b1).trans rfl;have c51:w1.cell? ⟨d,5,none⟩=some (.int .i64 (fn)):=(cell_of_block b1).trans rfl;have c61:w1.cell? ⟨d,6,none⟩=some (.int .i64 (9)):=(cell_of_block b1).trans rfl;clear s1;go_wp2_with (first | go_skip | (with_reducible refine zf (t:=3) ?_) | (with_reducible refine zf (t:=4) ?_) | (with_reducible refine zf (t:=74) ?_))
    refine za (zc rfl (zd (v:=.int .i64 (fn - 1)) (n:=1) (by kernel_rfl) (by rfl) (by rfl) b1 (by rfl) (by simp [dcs,Value.cells]) (by simp [Value.cells,Value.oneCell'])) ?_);intro w2 s2;simp only [Nat.reduceAdd,qn];have b2:w2.heap[d]?=some (.cells (dcs m1 m2 sv ⟨files,lasting,steps,cap,fu,fn - 1,9,false,ch + 1⟩) 76 (0,0)):=s2.blk;have k2:Keeps (·=d) w w2:=k1.trans s2.k (fun _ _ e=>e);have c42:w2.cell? ⟨d,4,none⟩=some (.int .i64 (fu)):=(cell_of_block b2).trans rfl;have c52:w2.cell? ⟨d,5,none⟩=some (.int .i64 (fn - 1)):=(cell_of_block b2).trans rfl;have c62:w2.cell? ⟨d,6,none⟩=some (.int .i64 (9)):=(cell_of_block b2).trans rfl;clear s2 c41 c51 c61;obtain ⟨r0,r1,r2,r3⟩:=HR.out w2 b2 k2;have HF:=qq (r1 rfl);clear r0 r1 r2 r3;go_wp2_with fail;refine HF.out.mono ?_;rintro _ w9 ⟨⟨v,rfl⟩,hr⟩;have HR9:=qq hr;clear hr;go_wp2;go_ret;exact ⟨rfl,HR9.out⟩
   ·
    skip
    have hu2:¬ 0 < fu:=by omega
    have hu3:¬ fu=0:=by omega
    have hc:chg ⟨files,lasting,steps,cap,fu,fn,9,false,ch⟩=(⟨files,lasting,steps,cap,fu,0,0,false,ch + 1⟩,2,9):=by simp [chg,hu,hu2,hu3,hn]
    rw [hc] at HR ⊢;clear hc hu3;go_enter Tryz.func87,Tryz.ntmps87;go_wp2_with (first | go_skip | (with_reducible refine zf (t:=3) ?_) | (with_reducible refine zf (t:=4) ?_) | (with_reducible refine zf (t:=74) ?_))
    refine za (zc rfl (zd (v:=.int .i64 (ch + 1)) (n:=1) (by kernel_rfl) (by rfl) (by rfl) b0 (by rfl) (by simp [dcs,Value.cells]) (by simp [Value.cells,Value.oneCell'])) ?_);intro w1 s1;simp only [Nat.reduceAdd,qn];have b1:w1.heap[d]?=some (.cells (dcs m1 m2 sv ⟨files,lasting,steps,cap,fu,fn,9,false,ch + 1⟩) 76 (0,0)):=s1.blk;have k1:Keeps (·=d) w w1:=s1.k;have c41:w1.cell? ⟨d,4,none⟩=some (.int .i64 (fu)):=(cell_of_block b1).trans rfl;have c51:w1.cell? ⟨d,5,none⟩=some (.int .i64 (fn)):=(cell_of_block b1).trans rfl;have c61:w1.cell? ⟨d,6,none⟩=some (.int .i64 (9)):=(cell_of_block b1).trans rfl;clear s1;go_wp2_with (first | go_skip | (with_reducible refine zf (t:=3) ?_) | (with_reducible refine zf (t:=4) ?_) | (with_reducible refine zf (t:=74) ?_))
    refine za (zc rfl (zd (v:=.agg #[.int .i64 0,.int .i64 0]) (n:=2) (by kernel_rfl) (by rfl) (by rfl) b1 (by rfl) (by simp [dcs,Value.cells]) (by simp [Value.cells,Value.oneCell'])) ?_);intro w2 s2;simp only [Nat.reduceAdd,qn];have b2:w2.heap[d]?=some (.cells (dcs m1 m2 sv ⟨files,lasting,steps,cap,fu,0,0,false,ch + 1⟩) 76 (0,0)):=s2.blk;have k2:Keeps (·=d) w w2:=k1.trans s2.k (fun _ _ e=>e);have c42:w2.cell? ⟨d,4,none⟩=some (.int .i64 (fu)):=(cell_of_block b2).trans rfl;have c52:w2.cell? ⟨d,5,none⟩=some (.int .i64 (0)):=(cell_of_block b2).trans rfl;have c62:w2.cell? ⟨d,6,none⟩=some (.int .i64 (0)):=(cell_of_block b2).trans rfl;clear s2 c41 c51 c61;obtain ⟨r0,r1,r2,r3⟩:=HR.out w2 b2 k2;have HF:=qq (r2 rfl);clear r0 r1 r2 r3;go_wp2_with fail;refine HF.out.mono ?_;rintro _ w9 ⟨⟨v,rfl⟩,hr⟩;have HR9:=qq hr;clear hr;go_wp2;go_ret;exact ⟨rfl,HR9.out⟩
  ·
   by_cases hn:0 < fn
   ·
    skip
    skip
    have hc:chg ⟨files,lasting,steps,cap,0,fn,9,false,ch⟩=(⟨files,lasting,steps,cap,0,fn - 1,9,true,ch + 1⟩,3,8):=by simp [chg,hn]
    rw [hc] at HR ⊢;clear hc
    skip
    go_enter Tryz.func87,Tryz.ntmps87;go_wp2_with (first | go_skip | (with_reducible refine zf (t:=3) ?_) | (with_reducible refine zf (t:=4) ?_) | (with_reducible refine zf (t:=74) ?_))
    refine za (zc rfl (zd (v:=.int .i64 (ch + 1)) (n:=1) (by kernel_rfl) (by rfl) (by rfl) b0 (by rfl) (by simp [dcs,Value.cells]) (by simp [Value.cells,Value.oneCell'])) ?_);intro w1 s1;simp only [Nat.reduceAdd,qn];have b1:w1.heap[d]?=some (.cells (dcs m1 m2 sv ⟨files,lasting,steps,cap,0,fn,9,false,ch + 1⟩) 76 (0,0)):=s1.blk;have k1:Keeps (·=d) w w1:=s1.k;have c41:w1.cell? ⟨d,4,none⟩=some (.int .i64 (0)):=(cell_of_block b1).trans rfl;have c51:w1.cell? ⟨d,5,none⟩=some (.int .i64 (fn)):=(cell_of_block b1).trans rfl;have c61:w1.cell? ⟨d,6,none⟩=some (.int .i64 (9)):=(cell_of_block b1).trans rfl;clear s1;go_wp2_with (first | go_skip | (with_reducible refine zf (t:=3) ?_) | (with_reducible refine zf (t:=4) ?_) | (with_reducible refine zf (t:=74) ?_))
    refine za (zc rfl (zd (v:=.int .i64 (fn - 1)) (n:=1) (by kernel_rfl) (by rfl) (by rfl) b1 (by rfl) (by simp [dcs,Value.cells]) (by simp [Value.cells,Value.oneCell'])) ?_);intro w2 s2;simp only [Nat.reduceAdd,qn];have b2:w2.heap[d]?=some (.cells (dcs m1 m2 sv ⟨files,lasting,steps,cap,0,fn - 1,9,false,ch + 1⟩) 76 (0,0)):=s2.blk;have k2:Keeps (·=d) w w2:=k1.trans s2.k (fun _ _ e=>e);have c42:w2.cell? ⟨d,4,none⟩=some (.int .i64 (0)):=(cell_of_block b2).trans rfl;have c52:w2.cell? ⟨d,5,none⟩=some (.int .i64 (fn - 1)):=(cell_of_block b2).trans rfl;have c62:w2.cell? ⟨d,6,none⟩=some (.int .i64 (9)):=(cell_of_block b2).trans rfl;clear s2 c41 c51 c61;go_wp2_with (first | go_skip | (with_reducible refine zf (t:=3) ?_) | (with_reducible refine zf (t:=4) ?_) | (with_reducible refine zf (t:=74) ?_))
    refine za (zc rfl (zd (v:=.bool true) (n:=1) (by kernel_rfl) (by rfl) (by rfl) b2 (by rfl) (by simp [dcs,Value.cells]) (by simp [Value.cells,Value.oneCell'])) ?_);intro w3 s3;simp only [Nat.reduceAdd,qn];have b3:w3.heap[d]?=some (.cells (dcs m1 m2 sv ⟨files,lasting,steps,cap,0,fn - 1,9,true,ch + 1⟩) 76 (0,0)):=s3.blk;have k3:Keeps (·=d) w w3:=k2.trans s3.k (fun _ _ e=>e);have c43:w3.cell? ⟨d,4,none⟩=some (.int .i64 (0)):=(cell_of_block b3).trans rfl;have c53:w3.cell? ⟨d,5,none⟩=some (.int .i64 (fn - 1)):=(cell_of_block b3).trans rfl;have c63:w3.cell? ⟨d,6,none⟩=some (.int .i64 (9)):=(cell_of_block b3).trans rfl;clear s3 c42 c52 c62;obtain ⟨r0,r1,r2,r3⟩:=HR.out w3 b3 k3;have HF:=qq (r3 rfl);clear r0 r1 r2 r3;go_wp2_with fail;refine HF.out.mono ?_;rintro _ w9 ⟨⟨v,rfl⟩,hr⟩;have HR9:=qq hr;clear hr;go_wp2;go_ret;exact ⟨rfl,HR9.out⟩
   ·
    skip
    skip
    have hc:chg ⟨files,lasting,steps,cap,0,fn,9,false,ch⟩=(⟨files,lasting,steps,cap,0,0,0,false,ch + 1⟩,2,9):=by simp [chg,hn]
    rw [hc] at HR ⊢;clear hc
    skip
    go_enter Tryz.func87,Tryz.ntmps87;go_wp2_with (first | go_skip | (with_reducible refine zf (t:=3) ?_) | (with_reducible refine zf (t:=4) ?_) | (with_reducible refine zf (t:=74) ?_))
    refine za (zc rfl (zd (v:=.int .i64 (ch + 1)) (n:=1) (by kernel_rfl) (by rfl) (by rfl) b0 (by rfl) (by simp [dcs,Value.cells]) (by simp [Value.cells,Value.oneCell'])) ?_);intro w1 s1;simp only [Nat.reduceAdd,qn];have b1:w1.heap[d]?=some (.cells (dcs m1 m2 sv ⟨files,lasting,steps,cap,0,fn,9,false,ch + 1⟩) 76 (0,0)):=s1.blk;have k1:Keeps (·=d) w w1:=s1.k;have c41:w1.cell? ⟨d,4,none⟩=some (.int .i64 (0)):=(cell_of_block b1).trans rfl;have c51:w1.cell? ⟨d,5,none⟩=some (.int .i64 (fn)):=(cell_of_block b1).trans rfl;have c61:w1.cell? ⟨d,6,none⟩=some (.int .i64 (9)):=(cell_of_block b1).trans rfl;clear s1;go_wp2_with (first | go_skip | (with_reducible refine zf (t:=3) ?_) | (with_reducible refine zf (t:=4) ?_) | (with_reducible refine zf (t:=74) ?_))
    refine za (zc rfl (zd (v:=.agg #[.int .i64 0,.int .i64 0]) (n:=2) (by kernel_rfl) (by rfl) (by rfl) b1 (by rfl) (by simp [dcs,Value.cells]) (by simp [Value.cells,Value.oneCell'])) ?_);intro w2 s2;simp only [Nat.reduceAdd,qn];have b2:w2.heap[d]?=some (.cells (dcs m1 m2 sv ⟨files,lasting,steps,cap,0,0,0,false,ch + 1⟩) 76 (0,0)):=s2.blk;have k2:Keeps (·=d) w w2:=k1.trans s2.k (fun _ _ e=>e);have c42:w2.cell? ⟨d,4,none⟩=some (.int .i64 (0)):=(cell_of_block b2).trans rfl;have c52:w2.cell? ⟨d,5,none⟩=some (.int .i64 (0)):=(cell_of_block b2).trans rfl;have c62:w2.cell? ⟨d,6,none⟩=some (.int .i64 (0)):=(cell_of_block b2).trans rfl;clear s2 c41 c51 c61;obtain ⟨r0,r1,r2,r3⟩:=HR.out w2 b2 k2;have HF:=qq (r2 rfl);clear r0 r1 r2 r3;go_wp2_with fail;refine HF.out.mono ?_;rintro _ w9 ⟨⟨v,rfl⟩,hr⟩;have HR9:=qq hr;clear hr;go_wp2;go_ret;exact ⟨rfl,HR9.out⟩
  ·
   by_cases hn:0 < fn
   ·
    skip
    skip
    have hu3:¬ fu=0:=by omega
    have hc:chg ⟨files,lasting,steps,cap,fu,fn,9,false,ch⟩=(⟨files,lasting,steps,cap,fu - 1,fn - 1,9,false,ch + 1⟩,1,0):=by simp [chg,hu,hu3,hn]
    rw [hc] at HR ⊢;clear hc hu3;go_enter Tryz.func87,Tryz.ntmps87;go_wp2_with (first | go_skip | (with_reducible refine zf (t:=3) ?_) | (with_reducible refine zf (t:=4) ?_) | (with_reducible refine zf (t:=74) ?_))
    refine za (zc rfl (zd (v:=.int .i64 (ch + 1)) (n:=1) (by kernel_rfl) (by rfl) (by rfl) b0 (by rfl) (by simp [dcs,Value.cells]) (by simp [Value.cells,Value.oneCell'])) ?_);intro w1 s1;simp only [Nat.reduceAdd,qn];have b1:w1.heap[d]?=some (.cells (dcs m1 m2 sv ⟨files,lasting,steps,cap,fu,fn,9,false,ch + 1⟩) 76 (0,0)):=s1.blk;have k1:Keeps (·=d) w w1:=s1.k;have c41:w1.cell? ⟨d,4,none⟩=some (.int .i64 (fu)):=(cell_of_block b1).trans rfl;have c51:w1.cell? ⟨d,5,none⟩=some (.int .i64 (fn)):=(cell_of_block b1).trans rfl;have c61:w1.cell? ⟨d,6,none⟩=some (.int .i64 (9)):=(cell_of_block b1).trans rfl;clear s1;go_wp2_with (first | go_skip | (with_reducible refine zf (t:=3) ?_) | (with_reducible refine zf (t:=4) ?_) | (with_reducible refine zf (t:=74) ?_))
    refine za (zc rfl (zd (v:=.int .i64 (fu - 1)) (n:=1) (by kernel_rfl) (by rfl) (by rfl) b1 (by rfl) (by simp [dcs,Value.cells]) (by simp [Value.cells,Value.oneCell'])) ?_);intro w2 s2;simp only [Nat.reduceAdd,qn];have b2:w2.heap[d]?=some (.cells (dcs m1 m2 sv ⟨files,lasting,steps,cap,fu - 1,fn,9,false,ch + 1⟩) 76 (0,0)):=s2.blk;have k2:Keeps (·=d) w w2:=k1.trans s2.k (fun _ _ e=>e);have c42:w2.cell? ⟨d,4,none⟩=some (.int .i64 (fu - 1)):=(cell_of_block b2).trans rfl;have c52:w2.cell? ⟨d,5,none⟩=some (.int .i64 (fn)):=(cell_of_block b2).trans rfl;have c62:w2.cell? ⟨d,6,none⟩=some (.int .i64 (9)):=(cell_of_block b2).trans rfl;clear s2 c41 c51 c61;go_wp2_with (first | go_skip | (with_reducible refine zf (t:=3) ?_) | (with_reducible refine zf (t:=4) ?_) | (with_reducible refine zf (t:=74) ?_))
    refine za (zc rfl (zd (v:=.int .i64 (fn - 1)) (n:=1) (by kernel_rfl) (by rfl) (by rfl) b2 (by rfl) (by simp [dcs,Value.cells]) (by simp [Value.cells,Value.oneCell'])) ?_);intro w3 s3;simp only [Nat.reduceAdd,qn];have b3:w3.heap[d]?=some (.cells (dcs m1 m2 sv ⟨files,lasting,steps,cap,fu - 1,fn - 1,9,false,ch + 1⟩) 76 (0,0)):=s3.blk;have k3:Keeps (·=d) w w3:=k2.trans s3.k (fun _ _ e=>e);have c43:w3.cell? ⟨d,4,none⟩=some (.int .i64 (fu - 1)):=(cell_of_block b3).trans rfl;have c53:w3.cell? ⟨d,5,none⟩=some (.int .i64 (fn - 1)):=(cell_of_block b3).trans rfl;have c63:w3.cell? ⟨d,6,none⟩=some (.int .i64 (9)):=(cell_of_block b3).trans rfl;clear s3 c42 c52 c62;obtain ⟨r0,r1,r2,r3⟩:=HR.out w3 b3 k3;have HF:=qq (r1 rfl);clear r0 r1 r2 r3;go_wp2_with fail;refine HF.out.mono ?_;rintro _ w9 ⟨⟨v,rfl⟩,hr⟩;have HR9:=qq hr;clear hr;go_wp2;go_ret;exact ⟨rfl,HR9.out⟩
   ·
    skip
    skip
    have hu3:¬ fu=0:=by omega
    have hc:chg ⟨files,lasting,steps,cap,fu,fn,9,false,ch⟩=(⟨files,lasting,steps,cap,fu - 1,0,0,false,ch + 1⟩,2,9):=by simp [chg,hu,hu3,hn]
    rw [hc] at HR ⊢;clear hc hu3;go_enter Tryz.func87,Tryz.ntmps87;go_wp2_with (first | go_skip | (with_reducible refine zf (t:=3) ?_) | (with_reducible refine zf (t:=4) ?_) | (with_reducible refine zf (t:=74) ?_))
    refine za (zc rfl (zd (v:=.int .i64 (ch + 1)) (n:=1) (by kernel_rfl) (by rfl) (by rfl) b0 (by rfl) (by simp [dcs,Value.cells]) (by simp [Value.cells,Value.oneCell'])) ?_);intro w1 s1;simp only [Nat.reduceAdd,qn];have b1:w1.heap[d]?=some (.cells (dcs m1 m2 sv ⟨files,lasting,steps,cap,fu,fn,9,false,ch + 1⟩) 76 (0,0)):=s1.blk;have k1:Keeps (·=d) w w1:=s1.k;have c41:w1.cell? ⟨d,4,none⟩=some (.int .i64 (fu)):=(cell_of_block b1).trans rfl;have c51:w1.cell? ⟨d,5,none⟩=some (.int .i64 (fn)):=(cell_of_block b1).trans rfl;have c61:w1.cell? ⟨d,6,none⟩=some (.int .i64 (9)):=(cell_of_block b1).trans rfl;clear s1;go_wp2_with (first | go_skip | (with_reducible refine zf (t:=3) ?_) | (with_reducible refine zf (t:=4) ?_) | (with_reducible refine zf (t:=74) ?_))
    refine za (zc rfl (zd (v:=.int .i64 (fu - 1)) (n:=1) (by kernel_rfl) (by rfl) (by rfl) b1 (by rfl) (by simp [dcs,Value.cells]) (by simp [Value.cells,Value.oneCell'])) ?_);intro w2 s2;simp only [Nat.reduceAdd,qn];have b2:w2.heap[d]?=some (.cells (dcs m1 m2 sv ⟨files,lasting,steps,cap,fu - 1,fn,9,false,ch + 1⟩) 76 (0,0)):=s2.blk;have k2:Keeps (·=d) w w2:=k1.trans s2.k (fun _ _ e=>e);have c42:w2.cell? ⟨d,4,none⟩=some (.int .i64 (fu - 1)):=(cell_of_block b2).trans rfl;have c52:w2.cell? ⟨d,5,none⟩=some (.int .i64 (fn)):=(cell_of_block b2).trans rfl;have c62:w2.cell? ⟨d,6,none⟩=some (.int .i64 (9)):=(cell_of_block b2).trans rfl;clear s2 c41 c51 c61;go_wp2_with (first | go_skip | (with_reducible refine zf (t:=3) ?_) | (with_reducible refine zf (t:=4) ?_) | (with_reducible refine zf (t:=74) ?_))
    refine za (zc rfl (zd (v:=.agg #[.int .i64 0,.int .i64 0]) (n:=2) (by kernel_rfl) (by rfl) (by rfl) b2 (by rfl) (by simp [dcs,Value.cells]) (by simp [Value.cells,Value.oneCell'])) ?_);intro w3 s3;simp only [Nat.reduceAdd,qn];have b3:w3.heap[d]?=some (.cells (dcs m1 m2 sv ⟨files,lasting,steps,cap,fu - 1,0,0,false,ch + 1⟩) 76 (0,0)):=s3.blk;have k3:Keeps (·=d) w w3:=k2.trans s3.k (fun _ _ e=>e);have c43:w3.cell? ⟨d,4,none⟩=some (.int .i64 (fu - 1)):=(cell_of_block b3).trans rfl;have c53:w3.cell? ⟨d,5,none⟩=some (.int .i64 (0)):=(cell_of_block b3).trans rfl;have c63:w3.cell? ⟨d,6,none⟩=some (.int .i64 (0)):=(cell_of_block b3).trans rfl;clear s3 c42 c52 c62;obtain ⟨r0,r1,r2,r3⟩:=HR.out w3 b3 k3;have HF:=qq (r2 rfl);clear r0 r1 r2 r3;go_wp2_with fail;refine HF.out.mono ?_;rintro _ w9 ⟨⟨v,rfl⟩,hr⟩;have HR9:=qq hr;clear hr;go_wp2;go_ret;exact ⟨rfl,HR9.out⟩
end Go.Proofs.YtpjomdmjohjheaaGreatDoor
end
section
namespace Go.Vfs
open Go.Lk Go.RowKit
def sb (s:ByteArray):List Nat:=s.data.toList.map UInt8.toNat
theorem sb_len (s:ByteArray):(sb s).length=s.size:=by simp [sb]
def okc (c:Nat):Bool:=(decide (97 <= c) && decide (c <= 122)) || (decide (48 <= c) && decide (c <= 57)) || decide (c=46) || decide (c=45)
def mnB (s:ByteArray):Bool:=(sb s).all okc && (decide (1 <= s.size) && decide (s.size <= 32))
def IsBytes (w:World) (s:ByteArray) (v:Value) (w':World):Prop:=∃ g c,v=.slice (some ⟨g,0,none⟩) s.size c /\ w.heap.size <= g /\ (∀ i,i < s.size -> w'.cell? ⟨g,i,none⟩=some (.int .u8 (ntn (sb s) i:Nat))) /\ Keeps Nb w w'
theorem zem {P:Program} {w:World} {dst:Option Tmp} {x:Operand} {src t e ty:TypeId} {pos:String} {aft:Array Edge} {gd:Option (Nat × Bool)} {a:Act} {s:ByteArray} (hs:P.underlying src=some .string) (hd:P.underlying t=some (.slice e)) (he:P.underlying e=some (.int .u8)) (hx:a.eval x=.string s) :
  ∃ v w',(execOp a.eval ⟨dst,.convert src t x,ty,pos,aft,gd⟩).run P w=.ok (.value v) w' /\ IsBytes w s v w':=by
 refine ⟨.slice (some ⟨w.heap.size,0,none⟩) s.size (grownCap w s.size 0 e),Lib.bytesWorld w e s,?_,w.heap.size,grownCap w s.size 0 e,rfl,Nat.le_refl _,fun i hi=>?_,?_⟩
 ·unfold execOp;simp only [hx,Sem.run_bind,Lib.run_convert_string_bytes w src t e s hs hd he,Result.andThen_ok,Sem.run_pure]
 ·
  have:=Lib.bytesWorld_cell w e s i hi;rw [this];have:i < s.data.toList.length:=by simpa using hi
  simp [ntn,sb,List.getD_eq_getElem?_getD,this];cases s.data[i]? <;> rfl
 ·exact ⟨rfl,rfl,rfl,by rw [Lib.bytesWorld_size];omega,fun k hk _=>Lib.bytesWorld_at_old w e s k hk⟩
end Go.Vfs
namespace Go.Proofs.YtpjomdmjohjheaaGreatDoor
open Go.RowKit Go.Lk Go.Vfs
theorem zy {P:Program} {ops:Array Oper} {rest:List Oper} {dst:Option Tmp} {x:Operand} {s t ty:TypeId} {pos:String} {aft:Array Edge} {gd:Option (Nat × Bool)} {a:Act} {w:World} {Q:Exit -> Act -> World -> Prop}
  (h:At (wpList P ops Q (⟨dst,.convert s t x,ty,pos,aft,gd⟩ :: rest) a w)):wpList P ops Q (⟨dst,.convert s t x,ty,pos,aft,gd⟩ :: rest) a w:=h
theorem z56 (s:ByteArray) (hs:s.size <= maxLen) (w:World):Calls Tryz.prog 50 #[.string s] w fun e w'=>e=.returned (.bool (mnB s)) /\ Keeps Nb w w':=by
 unfold maxLen at hs;have hl:=sb_len s;obtain ⟨n,hn⟩:∃ n,s.size=n:=⟨_,rfl⟩
 have hmn:mnB s=((sb s).all okc && (decide (1 <= n) && decide (n <= 32))):=by rw [<- hn];rfl
 have HM:=qq hmn;clear hmn;have hsn:s.data.size=n:=hn;rw [hn] at hs hl;have HN:=qq hn;go_enter Tryz.func50,Tryz.ntmps50;go_wp2_with (first | go_skip | (with_reducible refine zy ?_))
 refine za (zi rfl (zem (s:=s) Tryz.underlying9 Tryz.underlying22 Tryz.underlying5 (by rfl)) ?_);rintro _ w1 ⟨g,c,rfl,hg,hc,k1⟩;simp only [Nat.reduceAdd,qn];rw [HN.out] at hc ⊢;have HC:=qq hc;have HL:=qq hl;clear hc hn hl;go_wp2
 go_loop [8] (fun i=>∃ k:Nat,k <= n /\ i=.int .i64 k /\ ((sb s).take k).all okc=true) (fun i=>n - (intOf i).toNat)
 case atStart=>exact ⟨0,Nat.zero_le _,rfl,by simp⟩
 case round =>
  obtain ⟨k,hk,rfl,hall⟩:=hrel;have HA:=qq hall;clear hall;by_cases hlt:k < n
  ·
   have i1:(k:Int) < (n:Int):=by omega
   have ck:=HC.out k hlt
   have HT:=qq (show ((sb s).take (k + 1)).all okc=(((sb s).take k).all okc && okc (ntn (sb s) k)) by
    have h:k < (sb s).length:=by rw [HL.out];exact hlt
    rw [List.take_succ_eq_append_getElem h,List.all_append,z15 h];simp)
   have HF:=qq (show okc (ntn (sb s) k)=false -> mnB s=false from fun h=>by
    rw [HM.out];have:(sb s).all okc=false:=by
     rw [List.all_eq_false];exact ⟨_,z6y (by rw [HL.out];exact hlt),by simpa using h⟩
    rw [this];rfl)
   have hxb:ntn (sb s) k < 256:=by
    rw [z15 (by rw [HL.out];exact hlt)];simp only [sb,List.getElem_map];exact UInt8.toNat_lt _
   generalize ntn (sb s) k=x at *;have hx:(x < 45) \/ (x=45) \/ (x=46) \/ (x=47) \/ (48 <= x /\ x <= 57) \/ (58 <= x /\ x <= 96) \/ (97 <= x /\ x <= 122) \/ (122 < x):=by omega
   rcases hx with hx | hx | hx | hx | hx | hx | hx | hx
   ·
    have t1:decide ((x:Int) < 97)=true:=by simp;omega
    have t2:decide ((122:Int) < (x:Int))=false:=by simp;omega
    have t3:decide ((x:Int) < 48)=true:=by simp;omega
    have t4:decide ((57:Int) < (x:Int))=false:=by simp;omega
    have t5:((x:Int) != 46)=true:=by simp;omega
    have t6:((x:Int) != 45)=true:=by simp;omega
    have ok:okc x=false:=by unfold okc;simp;omega
    have HO:=qq ok;clear ok hx;go_wp2;go_ret;exact ⟨by rw [HF.out HO.out];rfl,k1⟩
   ·
    have t1:decide ((x:Int) < 97)=true:=by simp;omega
    have t2:decide ((122:Int) < (x:Int))=false:=by simp;omega
    have t3:decide ((x:Int) < 48)=true:=by simp;omega
    have t4:decide ((57:Int) < (x:Int))=false:=by simp;omega
    have t5:((x:Int) != 46)=true:=by simp;omega
    have t6:((x:Int) != 45)=false:=by simp;omega
    have ok:okc x=true:=by unfold okc;simp;omega
    have HO:=qq ok;clear ok hx;go_wp2;go_round
    case rel=>exact ⟨k + 1,by omega,by go_num,by rw [HT.out,HA.out,HO.out];rfl⟩
    case measure=>simp [intOf];omega
   ·
    have t1:decide ((x:Int) < 97)=true:=by simp;omega
    have t2:decide ((122:Int) < (x:Int))=false:=by simp;omega
    have t3:decide ((x:Int) < 48)=true:=by simp;omega
    have t4:decide ((57:Int) < (x:Int))=false:=by simp;omega
    have t5:((x:Int) != 46)=false:=by simp;omega
    have t6:((x:Int) != 45)=true:=by simp;omega
    have ok:okc x=true:=by unfold okc;simp;omega
    have HO:=qq ok;clear ok hx;go_wp2;go_round
    case rel=>exact ⟨k + 1,by omega,by go_num,by rw [HT.out,HA.out,HO.out];rfl⟩
    case measure=>simp [intOf];omega
   ·
    have t1:decide ((x:Int) < 97)=true:=by simp;omega
    have t2:decide ((122:Int) < (x:Int))=false:=by simp;omega
    have t3:decide ((x:Int) < 48)=true:=by simp;omega
    have t4:decide ((57:Int) < (x:Int))=false:=by simp;omega
    have t5:((x:Int) != 46)=true:=by simp;omega
    have t6:((x:Int) != 45)=true:=by simp;omega
    have ok:okc x=false:=by unfold okc;simp;omega
    have HO:=qq ok;clear ok hx;go_wp2;go_ret;exact ⟨by rw [HF.out HO.out];rfl,k1⟩
   ·
    have t1:decide ((x:Int) < 97)=true:=by simp;omega
    have t2:decide ((122:Int) < (x:Int))=false:=by simp;omega
    have t3:decide ((x:Int) < 48)=false:=by simp;omega
    have t4:decide ((57:Int) < (x:Int))=false:=by simp;omega
    have t5:((x:Int) != 46)=true:=by simp;omega
    have t6:((x:Int) != 45)=true:=by simp;omega
    have ok:okc x=true:=by unfold okc;simp;omega
    have HO:=qq ok;clear ok hx;go_wp2;go_round
    case rel=>exact ⟨k + 1,by omega,by go_num,by rw [HT.out,HA.out,HO.out];rfl⟩
    case measure=>simp [intOf];omega
   ·
    have t1:decide ((x:Int) < 97)=true:=by simp;omega
    have t2:decide ((122:Int) < (x:Int))=false:=by simp;omega
    have t3:decide ((x:Int) < 48)=false:=by simp;omega
    have t4:decide ((57:Int) < (x:Int))=true:=by simp;omega
    have t5:((x:Int) != 46)=true:=by simp;omega
    have t6:((x:Int) != 45)=true:=by simp;omega
    have ok:okc x=false:=by unfold okc;simp;omega
    have HO:=qq ok;clear ok hx;go_wp2;go_ret;exact ⟨by rw [HF.out HO.out];rfl,k1⟩
   ·
    have t1:decide ((x:Int) < 97)=false:=by simp;omega
    have t2:decide ((122:Int) < (x:Int))=false:=by simp;omega
    have t3:decide ((x:Int) < 48)=false:=by simp;omega
    have t4:decide ((57:Int) < (x:Int))=true:=by simp;omega
    have t5:((x:Int) != 46)=true:=by simp;omega
    have t6:((x:Int) != 45)=true:=by simp;omega
    have ok:okc x=true:=by unfold okc;simp;omega
    have HO:=qq ok;clear ok hx;go_wp2;go_round
    case rel=>exact ⟨k + 1,by omega,by go_num,by rw [HT.out,HA.out,HO.out];rfl⟩
    case measure=>simp [intOf];omega
   ·
    have t1:decide ((x:Int) < 97)=false:=by simp;omega
    have t2:decide ((122:Int) < (x:Int))=true:=by simp;omega
    have t3:decide ((x:Int) < 48)=false:=by simp;omega
    have t4:decide ((57:Int) < (x:Int))=true:=by simp;omega
    have t5:((x:Int) != 46)=true:=by simp;omega
    have t6:((x:Int) != 45)=true:=by simp;omega
    have ok:okc x=false:=by unfold okc;simp;omega
    have HO:=qq ok;clear ok hx;go_wp2;go_ret;exact ⟨by rw [HF.out HO.out];rfl,k1⟩
  ·
   have hkn:k=n:=by omega
   subst hkn;rw [List.take_of_length_le (by rw [HL.out];exact Nat.le_refl _)] at HA;have hm2:mnB s=(decide (1 <= k) && decide (k <= 32)):=by rw [HM.out,HA.out];rfl
   have HM2:=qq hm2;clear hm2;have hsz:s.size=k:=HN.out;by_cases h1:1 <= k
   ·
    by_cases h2:k <= 32
    ·
     have t7:decide ((k:Int) <= 32)=true:=by simp;omega
     have e:mnB s=true:=by rw [HM2.out];simp;omega
     have HE:=qq e;clear e;go_wp2;go_ret;exact ⟨by rw [HE.out];rfl,k1⟩
    ·
     have t7:decide ((k:Int) <= 32)=false:=by simp;omega
     have e:mnB s=false:=by rw [HM2.out];simp;omega
     have HE:=qq e;clear e;go_wp2;go_ret;exact ⟨by rw [HE.out];rfl,k1⟩
   ·
    have e:mnB s=false:=by rw [HM2.out];simp;omega
    have HE:=qq e;clear e;go_wp2;go_ret;exact ⟨by rw [HE.out];rfl,k1⟩
end Go.Proofs.YtpjomdmjohjheaaGreatDoor
end
section
namespace Go.Vfs
open Go.Lk Go.RowKit
def flook (l:List (ByteArray × Nat)) (s:ByteArray):Option Nat:=(l.find? fun p=>decide (p.1=s)).map Prod.snd
theorem z3e (l:List (ByteArray × Nat)) (s:ByteArray):(sget (vals l) s).getD (.pointer none)=ptr (flook l s):=by
 unfold sget flook vals
 induction l with
 | nil=>rfl
 | cons p l ih =>
  rw [List.map_cons,List.find?_cons,List.find?_cons];by_cases h:p.1=s
  ·simp [h,ptr]
  ·simp only [h,decide_false];exact ih
def found (D:Dk) (s:ByteArray):Option Nat × Int:=if mnB s=true then (match flook D.files s with | none=>(none,6) | some b=>(some b,0)) else (none,2)
theorem z04 (D:Dk) (s:ByteArray):(mnB s=false /\ found D s=(none,2)) \/ (mnB s=true /\ flook D.files s=none /\ found D s=(none,6)) \/ ∃ b,mnB s=true /\ flook D.files s=some b /\ found D s=(some b,0):=by
 unfold found;cases h:mnB s
 ·exact .inl ⟨rfl,rfl⟩
 ·
  cases h2:flook D.files s with
  | none=>exact .inr (.inl ⟨rfl,rfl,rfl⟩)
  | some b=>exact .inr (.inr ⟨b,rfl,rfl,rfl⟩)
end Go.Vfs
namespace Go.Proofs.YtpjomdmjohjheaaGreatDoor
open Go.RowKit Go.Lk Go.Vfs
theorem zero63 (w:World):(zeroValue 104).run Tryz.prog w=.ok (.pointer none) w:=by kernel_rfl
theorem z1m (d m1 m2:Nat) (sv:Value) (D:Dk) (w:World) (h:w.heap[d]?=some (.cells (dcs m1 m2 sv D) 76 (0,0))) (hm:SMap w m1 (vals D.files)) (s:ByteArray) (hs:s.size <= maxLen) :
  Calls Tryz.prog 86 #[.pointer (some ⟨d,0,none⟩),.string s] w fun e w'=>e=.returned (.tuple #[ptr (found D s).1,.int .i64 (found D s).2]) /\ Keeps Nb w w':=by
 obtain ⟨c0,-⟩:=cells9 h;have d0:=c0 ⟨w,Keeps.refl _ _⟩;have TH:=qq (z1z d m1 (.map none) (.map none) [] w d0);have HS:=qq hs;have NA:=qq (z56 s hs w);have HM:=qq hm;have HV:=qq (z3e D.files s);clear h hm hs d0;rcases z04 D s with ⟨h1,h2⟩ | ⟨h1,h2,h3⟩ | ⟨b,h1,h2,h3⟩
 ·rw [h1] at NA;rw [h2];clear h1 h2;go_enter Tryz.func86,Tryz.ntmps86;go_wp2_with fail;refine TH.out.mono ?_;rintro e w' ⟨rfl,rfl⟩;go_wp2_with fail;refine NA.out.mono ?_;rintro e w1 ⟨rfl,k1⟩;go_wp2;go_ret2;exact ⟨rfl,k1⟩
 ·
  rw [h1] at NA;rw [h3];rw [h2] at HV;clear h1 h2 h3;go_enter Tryz.func86,Tryz.ntmps86;go_wp2_with fail;refine TH.out.mono ?_;rintro e w' ⟨rfl,rfl⟩;go_wp2_with fail;refine NA.out.mono ?_;rintro e w1 ⟨rfl,k1⟩;have e0:=c0 ⟨w1,k1⟩;have KM:=qq (HM.out.nb k1);go_wp2_with (first | go_skip | (with_reducible refine z3h (t:=71) ?_))
  refine za (zw rfl (z1y KM.out smT (zero63 _) (by rfl) (by rfl) HS.out) ?_);simp only [Bool.false_eq_true,if_false,HV.out,ptr];simp only [Nat.reduceAdd,qn];go_wp2;go_ret2;exact ⟨rfl,k1⟩
 ·
  rw [h1] at NA;rw [h3];rw [h2] at HV;clear h1 h2 h3;go_enter Tryz.func86,Tryz.ntmps86;go_wp2_with fail;refine TH.out.mono ?_;rintro e w' ⟨rfl,rfl⟩;go_wp2_with fail;refine NA.out.mono ?_;rintro e w1 ⟨rfl,k1⟩;have e0:=c0 ⟨w1,k1⟩;have KM:=qq (HM.out.nb k1);go_wp2_with (first | go_skip | (with_reducible refine z3h (t:=71) ?_))
  refine za (zw rfl (z1y KM.out smT (zero63 _) (by rfl) (by rfl) HS.out) ?_);simp only [Bool.false_eq_true,if_false,HV.out,ptr];simp only [Nat.reduceAdd,qn];go_wp2_with (first | go_skip | (with_reducible refine z3h (t:=71) ?_))
  refine za (zw rfl (z1y KM.out smT (zero63 _) (by rfl) (by rfl) HS.out) ?_);simp only [Bool.false_eq_true,if_false,HV.out,ptr];simp only [Nat.reduceAdd,qn];go_wp2;go_ret2;exact ⟨rfl,k1⟩
theorem zdy (v:Value) (w:World) (s:ByteArray) (hv:v=.pointer none \/ ∃ d,v=.pointer (some ⟨d,0,none⟩) /\ w.cell? ⟨d,0,none⟩=some (.map none)) :
  Calls Tryz.prog 86 #[v,.string s] w fun e w'=>e=.returned (.tuple #[.pointer none,.int .i64 1]) /\ w=w':=by
 rcases hv with rfl | ⟨d,rfl,hc⟩
 ·go_enter Tryz.func86,Tryz.ntmps86;go_wp2_with fail;refine (zdh _).mono ?_;rintro e w' ⟨rfl,rfl⟩;go_wp2;go_ret2;exact ⟨rfl,rfl⟩
 ·have T:=qq (zbp d w hc);clear hc;go_enter Tryz.func86,Tryz.ntmps86;go_wp2_with fail;refine T.out.mono ?_;rintro e w' ⟨rfl,rfl⟩;go_wp2;go_ret2;exact ⟨rfl,rfl⟩
end Go.Proofs.YtpjomdmjohjheaaGreatDoor
end
section
namespace Go.Vfs
open Go.Lk Go.RowKit
variable {w w':World} {R R' S F F':Nat -> Prop} {d b:Nat} {x:Fl} {D:Dk} {fc:Nat -> Fl}
def Bytes (w:World) (R:Nat -> Prop) (v:Value) (l:List Nat):Prop :=
 ∃ a c,v=.slice a l.length c /\ l.length <= c /\ c <= maxLen /\ ReadsN .u8 w a l /\ (∀ z ∈ l,z < 256) /\ ∀ b off,a=some ⟨b,off,none⟩ -> l ≠ [] -> R b
theorem Bytes.keeps {v:Value} {l:List Nat} (h:Bytes w R v l) (hk:Keeps S w w') (hn:∀ k,R k -> ¬ S k):Bytes w' R v l:=by
 obtain ⟨a,c,h1,h2,h3,h4,h5,h6⟩:=h;exact ⟨a,c,h1,h2,h3,h4.keeps hk (fun b off e hz=>hn b (h6 b off e hz)),h5,h6⟩
theorem Bytes.mono {v:Value} {l:List Nat} (h:Bytes w R v l) (hn:∀ k,R k -> R' k):Bytes w R' v l:=by
 obtain ⟨a,c,h1,h2,h3,h4,h5,h6⟩:=h;exact ⟨a,c,h1,h2,h3,h4,h5,fun b off e hz=>hn b (h6 b off e hz)⟩
theorem Bytes.nil (w:World) (R:Nat -> Prop):Bytes w R (.slice none 0 0) []:=⟨none,0,rfl,Nat.le_refl _,Nat.zero_le _,.inl rfl,by simp,fun _ _ e=>by cases e⟩
def FileAt (w:World) (R:Nat -> Prop) (b:Nat) (x:Fl):Prop :=
 ∃ v,w.heap[b]?=some (.cells #[v,.int .i64 (x.lasts:Nat)] 115 (0,0)) /\ Bytes w R v x.b /\ x.lasts <= x.b.length /\ x.b.length <= 16777216
theorem FileAt.keeps (h:FileAt w R b x) (hk:Keeps S w w') (hb:¬ S b) (hn:∀ k,R k -> ¬ S k):FileAt w' R b x:=by
 obtain ⟨v,h1,h2,h3⟩:=h;exact ⟨v,hk.at h1 hb,h2.keeps hk hn,h3⟩
theorem FileAt.mono (h:FileAt w R b x) (hn:∀ k,R k -> R' k):FileAt w R' b x:=by
 obtain ⟨v,h1,h2,h3⟩:=h;exact ⟨v,h1,h2.mono hn,h3⟩
def Ref (D:Dk) (b:Nat):Prop:=(∃ p ∈ D.files,p.2=b) \/ (∃ p ∈ D.lasting,p.2=b) \/ ∃ s ∈ D.steps,s.f=some b
structure Nums (D:Dk):Prop where
 cap:1 <= D.cap /\ D.cap <= 16777216
 ch:0 <= D.changes /\ D.changes <= 1000000
 fu:-1 <= D.fuse /\ D.fuse <= 9223372036854775807
 fn:-1 <= D.fn /\ D.fn <= 9223372036854775807
 fe:D.fe=0 \/ D.fe=5 \/ D.fe=9
 nf:D.files.length <= 1000000
 nl:D.lasting.length <= 1000000
 ns:(D.steps.length:Int) <= D.changes
def GoodS (s:Stp):Prop:=(s.act=0 /\ mnB s.name=true /\ ∃ b,s.f=some b) \/ (s.act=1 /\ mnB s.name=true /\ mnB s.to=true /\ s.f=none) \/ (s.act=2 /\ mnB s.name=true /\ s.f=none)
structure Good (D:Dk):Prop where
 files:∀ p ∈ D.files,mnB p.1=true
 lasting:∀ p ∈ D.lasting,mnB p.1=true
 steps:∀ s ∈ D.steps,GoodS s
structure DiskAt (w:World) (d:Nat) (F R:Nat -> Prop) (D:Dk) (fc:Nat -> Fl):Prop where
 ex:∃ m1 m2 sv,w.heap[d]?=some (.cells (dcs m1 m2 sv D) 76 (0,0)) /\ SMap w m1 (vals D.files) /\ SMap w m2 (vals D.lasting) /\ m1 ≠ m2 /\ RowS w F R 106 4 sv D.steps.length (D.steps.flatMap stp) /\ F m1 /\ F m2
 fd:F d
 file:∀ b,Ref D b -> FileAt w R b (fc b) /\ F b
 nums:Nums D
 names:Good D
 apart:∀ k,F k -> ¬ R k
 ltF:∀ k,F k -> k < w.heap.size
 ltR:∀ k,R k -> k < w.heap.size
theorem DiskAt.keeps (h:DiskAt w d F R D fc) (hk:Keeps S w w') (hF:∀ k,F k -> ¬ S k) (hR:∀ k,R k -> ¬ S k):DiskAt w' d F R D fc:=by
 obtain ⟨⟨m1,m2,sv,h1,h2,h3,h4,h5,h6,h7⟩,g1,g2,g3,g3b,g4,g5,g6⟩:=h;have hn:∀ k,(F k \/ R k) -> ¬ S k:=fun k h=>h.elim (hF k) (hR k)
 exact ⟨⟨m1,m2,sv,hk.at h1 (hF d g1),h2.keeps hk (hF _ h6),h3.keeps hk (hF _ h7),h4,h5.keeps hk (fun k h _=>hn k h),h6,h7⟩,g1,fun b hb=>⟨(g2 b hb).1.keeps hk (hF b (g2 b hb).2) hR,(g2 b hb).2⟩,g3,g3b,g4,
  fun k hk'=>Nat.lt_of_lt_of_le (g5 k hk') hk.size,fun k hk'=>Nat.lt_of_lt_of_le (g6 k hk') hk.size⟩
theorem DiskAt.nb (h:DiskAt w d F R D fc) (hk:Keeps Nb w w'):DiskAt w' d F R D fc:=h.keeps hk (fun _ _ e=>e) (fun _ _ e=>e)
def Now (w w':World) (d:Nat) (F R:Nat -> Prop) (D:Dk) (fc:Nat -> Fl):Prop :=
 ∃ F' R',DiskAt w' d F' R' D fc /\ (∀ k,F' k -> F k \/ w.heap.size <= k) /\ (∀ k,R' k -> R k \/ w.heap.size <= k) /\ Keeps F w w'
theorem Now.nb {w2:World} (h:Now w w' d F R D fc) (hk:Keeps Nb w' w2):Now w w2 d F R D fc:=by
 obtain ⟨F',R',h1,h2,h3,h4⟩:=h;exact ⟨F',R',h1.nb hk,h2,h3,h4.trans_nb hk⟩
theorem Now.of (h:DiskAt w' d F R D fc) (hk:Keeps F w w'):Now w w' d F R D fc:=⟨F,R,h,fun k hk=>.inl hk,fun k hk=>.inl hk,hk⟩
theorem z4j {a c:Nat} {o o':Obj} (h:w.heap[a]?=some o) (h':w.heap[c]?=some o') (hne:o ≠ o'):a ≠ c:=by
 rintro rfl;rw [h] at h';exact hne (Option.some.inj h')
theorem DiskAt.ne_file (h:DiskAt w d F R D fc) {b:Nat} (hb:Ref D b):b ≠ d:=by
 obtain ⟨⟨v,h2,-⟩,-⟩:=h.file b hb;obtain ⟨⟨m1,m2,sv,h1,-⟩,-⟩:=h;exact z4j h2 h1 (by intro e;cases e)
theorem DiskAt.renum (h:DiskAt w d F R D fc) {m1 m2:Nat} {sv:Value} {D':Dk} (hd:w.heap[d]?=some (.cells (dcs m1 m2 sv D) 76 (0,0))) (hb:w'.heap[d]?=some (.cells (dcs m1 m2 sv D') 76 (0,0))) (hk:Keeps (·=d) w w')
  (e1:D'.files=D.files) (e2:D'.lasting=D.lasting) (e3:D'.steps=D.steps) (hn:Nums D'):DiskAt w' d F R D' fc:=by
 have hne:∀ b,Ref D b -> b ≠ d:=fun b hb=>h.ne_file hb;obtain ⟨⟨n1,n2,nv,h1,h2,h3,h4,h5,h6,h7⟩,g1,g2,g3,g3b,g4,g5,g6⟩:=h;rw [hd] at h1;have e:m1=n1 /\ m2=n2 /\ sv=nv:=by simpa [dcs] using h1
 obtain ⟨rfl,rfl,rfl⟩:=e;have q1:m1 ≠ d:=by obtain ⟨es,cl,hm,-⟩:=h2;exact z4j hm hd (by intro e;cases e)
 have q2:m2 ≠ d:=by obtain ⟨es,cl,hm,-⟩:=h3;exact z4j hm hd (by intro e;cases e)
 have hRd:∀ k,R k -> ¬ k=d:=fun k hr e=>by subst e;exact g4 _ g1 hr
 refine ⟨⟨m1,m2,sv,hb,e1 ▸ h2.keeps hk q1,e2 ▸ h3.keeps hk q2,h4,e3 ▸ h5.keeps hk (fun k hk ht e=>by
   obtain ⟨cur,fr,hh⟩:=ht
   rw [e,hd] at hh;cases hh),h6,h7⟩,g1,fun b hb=>?_,hn,⟨by rw [e1];exact g3b.files,by rw [e2];exact g3b.lasting,by rw [e3];exact g3b.steps⟩,g4,fun k hk'=>Nat.lt_of_lt_of_le (g5 k hk') hk.size,fun k hk'=>Nat.lt_of_lt_of_le (g6 k hk') hk.size⟩
 have hb':Ref D b:=by unfold Ref at hb ⊢;rw [e1,e2,e3] at hb;exact hb
 exact ⟨(g2 b hb').1.keeps hk (hne b hb') hRd,(g2 b hb').2⟩
end Go.Vfs
end
section
namespace Go.Vfs
open Go.Lk Go.RowKit
variable {w w':World} {R R' S F F':Nat -> Prop} {d b:Nat} {x:Fl} {D:Dk} {fc:Nat -> Fl}
theorem z5w {l:List (ByteArray × Nat)} {s:ByteArray} (h:flook l s=none):∀ p ∈ l,p.1 ≠ s:=by
 intro p hp e;unfold flook at h;rw [Option.map_eq_none_iff,List.find?_eq_none] at h;exact h p hp (by simpa using e)
theorem zn {l:List (ByteArray × Nat)} {s:ByteArray} (h:flook l s=some b):(s,b) ∈ l:=by
 unfold flook at h;obtain ⟨p,hp,rfl⟩:=Option.map_eq_some_iff.1 h;have h1:=List.mem_of_find?_eq_some hp;have h2:=List.find?_some hp;simp only [decide_eq_true_eq] at h2;rw [<- h2];exact h1
theorem z4t {l:List (ByteArray × Nat)} {s:ByteArray} (h:flook l s=none) (b:Nat):sput (vals l) s (.pointer (some ⟨b,0,none⟩))=vals (l ++ [(s,b)]):=by
 have hn:shas (vals l) s=false:=by
  rw [Bool.eq_false_iff];intro hs;obtain ⟨p,hp,e⟩:=z42.1 hs;obtain ⟨q,hq,rfl⟩:=List.mem_map.1 hp;exact z5w h q hq e
 unfold sput;rw [hn];simp [vals]
theorem FileAt.block (h:FileAt w R b x) (e:w'.heap[b]?=w.heap[b]?) (hk:Keeps S w w') (hn:∀ k,R k -> ¬ S k):FileAt w' R b x:=by
 obtain ⟨v,h1,h2,h3⟩:=h;exact ⟨v,e.trans h1,h2.keeps hk hn,h3⟩
theorem FileAt.lt (h:FileAt w R b x):b < w.heap.size:=by obtain ⟨v,h1,-⟩:=h;exact lt_of_block h1
theorem FileAt.isT (h:FileAt w R b x):IsT w 115 b:=by obtain ⟨v,h1,-⟩:=h;exact ⟨_,_,h1⟩
def Dk.make (D:Dk) (s:ByteArray) (b:Nat):Dk:={ D with files:=D.files ++ [(s,b)],steps:=D.steps ++ [⟨0,s,ByteArray.empty,some b⟩] }
end Go.Vfs
namespace Go.Proofs.YtpjomdmjohjheaaGreatDoor
open Go.RowKit Go.Lk Go.Vfs
theorem el57:ElemT Tryz.prog 72 106 4 48 (.agg #[.int .i64 0,.string ByteArray.empty,.string ByteArray.empty,.pointer none]):=⟨by kernel_rfl,by kernel_rfl,rfl,by decide⟩
theorem zgz {P:Program} {w:World} {a:Act} {dst:Option Tmp} {t ty:TypeId} {pos:String} {aft:Array Edge} {gd:Option (Nat × Bool)} {x y z:Operand} {u1 u2 u3 v:Value} (hx:a.eval x=u1) (hy:a.eval y=u2) (hz:a.eval z=u3) (h:(Instr.build t #[(0,u1),(1,u2),(3,u3)]).run P w=.ok v w) :
  (execOp a.eval ⟨dst,.build t #[(0,x),(1,y),(3,z)],ty,pos,aft,gd⟩).run P w=.ok (.value v) w:=by
 unfold execOp;simp [hx,hy,hz,h,Sem.run_bind,Result.andThen_ok,Sem.run_pure]
theorem zec (d a1 a2:Nat) (s:ByteArray) (D:Dk) (F R:Nat -> Prop) (fc:Nat -> Fl) (w:World) (h:DiskAt w d F R D fc) (h1:w.heap[a1]?=some (.cells #[.pointer (some ⟨d,0,none⟩)] 37 (0,0))) (h2:w.heap[a2]?=some (.cells #[.string s] 9 (0,0)))
  (hF1:¬ F a1) (hF2:¬ F a2) (hs:s.size <= maxLen) (hm:mnB s=true) (hn:flook D.files s=none) (hl:D.files.length < 64) (hst:(D.steps.length:Int) + 1 <= D.changes) :
  Calls Tryz.prog 88 #[.pointer (some ⟨a1,0,none⟩),.pointer (some ⟨a2,0,none⟩)] w fun e w'=>(∃ v,e=.returned v) /\ ∃ b,w.heap.size <= b /\ Now w w' d F R (D.make s b) (fun k=>if k=b then ⟨[],0⟩ else fc k):=by
 have H:=qq h;obtain ⟨⟨m1,m2,sv,h3,h4,h5,h6,h7,h8,h9⟩,g1,g2,g3,g3b,g4,g5,g6⟩:=h;have hch:D.changes <= 1000000:=g3.ch.2;have hb65:∀ W:World,(Instr.build 115 #[]).run Tryz.prog W=.ok (.agg #[.slice none 0 0,.int .i64 0]) W:=fun _=>by kernel_rfl
 have hb72:∀ (W:World) (n:ByteArray) (b:Nat),(Instr.build 106 #[(0,.int .i64 0),(1,.string n),(3,.pointer (some ⟨b,0,none⟩))]).run Tryz.prog W=.ok (.agg #[.int .i64 0,.string n,.string ByteArray.empty,.pointer (some ⟨b,0,none⟩)]) W:=fun _ _ _=>by kernel_rfl
 have n:∀ {k:Nat},¬ Nb k:=fun e=>e;have HN:=qq hn;have HM:=qq hm;have HS0:=qq hs;have HL:=qq hl;clear hm hs;go_enter Tryz.func88,Tryz.ntmps88;go_wp2_with (first | go_skip | (with_reducible refine zm (t:=115) ?_))
 refine za (vbox (by rfl) ?_);intro b w1 nb;simp only [Nat.reduceAdd,qn];go_wp2;have k1:=nb.k;have d1:=k1.nb h3;have e1:=k1.nb h1;have e2:=k1.nb h2;have M1:=h4.nb k1;have hbd:¬ d=b:=by have:=g5 d g1;have:=nb.ge;omega
 have hbm1:¬ m1=b:=by have:=g5 m1 h8;have:=nb.ge;omega
 have hbm2:¬ m2=b:=by have:=g5 m2 h9;have:=nb.ge;omega
 have hdm1:¬ d=m1:=by rintro rfl;obtain ⟨es,cl,q,-⟩:=h4;rw [h3] at q;cases q
 have hdm2:¬ d=m2:=by rintro rfl;obtain ⟨es,cl,q,-⟩:=h5;rw [h3] at q;cases q
 have hA1:¬ a1=m1:=by rintro rfl;exact hF1 h8
 have hA2:¬ a2=m1:=by rintro rfl;exact hF2 h8
 have HS:Hid ((fun u:World=>u.cell? ⟨a1,0,none⟩=some (.pointer (some ⟨d,0,none⟩)) /\ u.cell? ⟨a2,0,none⟩=some (.string s) /\ u.cell? ⟨d,0,none⟩=some (.map (some m1))) w1.drew):=⟨cell_of_block e1,cell_of_block e2,cell_of_block d1⟩
 refine WT.region (fun u:World=>u.cell? ⟨a1,0,none⟩=some (.pointer (some ⟨d,0,none⟩)) /\ u.cell? ⟨a2,0,none⟩=some (.string s) /\ u.cell? ⟨d,0,none⟩=some (.map (some m1))) 6 7 [0,1,2,3,4,5,6] (by kernel_rfl) rfl ?_;refine WT.t 0 (v:=.pointer (some ⟨d,0,none⟩)) (y:=by rintro w ⟨C1,C2,C3⟩;exact zb (by kernel_rfl) (by rfl) C1) (s:=HS.out) (h:=?_);refine WT.t 1 (v:=_) (y:=by rintro w ⟨C1,C2,C3⟩;go_simp;with_reducible rfl) (s:=HS.out) (h:=?_);refine WT.t 2 (v:=_) (y:=by rintro w ⟨C1,C2,C3⟩;go_simp;with_reducible rfl) (s:=HS.out) (h:=?_);refine WT.t 3 (v:=.map (some m1)) (y:=by rintro w ⟨C1,C2,C3⟩;exact zb (by kernel_rfl) (by rfl) C3) (s:=HS.out) (h:=?_);refine WT.t 4 (v:=.string s) (y:=by rintro w ⟨C1,C2,C3⟩;exact zb (by kernel_rfl) (by rfl) C2) (s:=HS.out) (h:=?_);refine WT.t 5 (v:=_) (y:=by rintro w ⟨C1,C2,C3⟩;go_simp;with_reducible rfl) (s:=HS.out) (h:=?_);refine WT.stop (by kernel_rfl) ?_;have M1d:SMap w1.drew m1 (vals D.files):=M1;refine WP.onlySkipE 6 (by simp only [qi];rfl) (by kernel_rfl) (by rfl) (z2s (v:=.pointer (some ⟨b,0,none⟩)) M1d smT (by rfl) (by rfl) (by rfl) HS0.out) ?_;rintro w2 ⟨M2,k2⟩;rw [z4t HN.out] at M2;simp only [Nat.reduceAdd,qn];refine WP.done (by kernel_rfl) ?_;have k12:Keeps (·=m1) w1 w2:=(Keeps.refl (·=m1) w1).drew.trans k2 (fun _ _ e=>e);have d2:=k12.at d1 hdm1;have f1:=k12.at e1 hA1;have f2:=k12.at e2 hA2;have ML2:=(h5.nb k1).keeps k12 (fun e=>h6 e.symm)
 have rw2:RowS w2 F R 106 4 sv D.steps.length (D.steps.flatMap stp):=(h7.keeps k1 (fun _ _ _=>n)).keeps k12 (fun k _ ht e=>by
  subst e;obtain ⟨es,cl,q,-⟩:=M1;exact ht.map q rfl)
 have nb2:=k12.at nb.blk (fun e=>hbm1 e.symm);have kk2:Keeps F w w2:=((Keeps.refl F w).trans_nb k1).trans k12 (fun i _ e=>e ▸ h8);clear HS M1d M1 k2 d1 e1 e2;go_wp2;have HS:Hid ((fun u:World=>u.cell? ⟨a1,0,none⟩=some (.pointer (some ⟨d,0,none⟩)) /\ u.cell? ⟨a2,0,none⟩=some (.string s) /\ u.cell? ⟨d,2,none⟩=some sv) w2.drew):=⟨cell_of_block f1,cell_of_block f2,cell_of_block d2⟩
 refine WT.region (fun u:World=>u.cell? ⟨a1,0,none⟩=some (.pointer (some ⟨d,0,none⟩)) /\ u.cell? ⟨a2,0,none⟩=some (.string s) /\ u.cell? ⟨d,2,none⟩=some sv) 10 13 [0,1,2,3,4,5,6,7,8,9,10,11,12] (by kernel_rfl) rfl ?_;refine WT.t 0 (v:=.pointer (some ⟨d,0,none⟩)) (y:=by rintro w ⟨C1,C2,C3⟩;exact zb (by kernel_rfl) (by rfl) C1) (s:=HS.out) (h:=?_);refine WT.t 1 (v:=.pointer (some ⟨d,0,none⟩)) (y:=by rintro w ⟨C1,C2,C3⟩;exact zb (by kernel_rfl) (by rfl) C1) (s:=HS.out) (h:=?_);refine WT.t 2 (v:=_) (y:=by rintro w ⟨C1,C2,C3⟩;go_simp;with_reducible rfl) (s:=HS.out) (h:=?_);refine WT.t 3 (v:=_) (y:=by rintro w ⟨C1,C2,C3⟩;go_simp;with_reducible rfl) (s:=HS.out) (h:=?_);refine WT.t 4 (v:=sv) (y:=by rintro w ⟨C1,C2,C3⟩;exact zb (by kernel_rfl) (by rfl) C3) (s:=HS.out) (h:=?_);refine WT.t 5 (v:=.string s) (y:=by rintro w ⟨C1,C2,C3⟩;exact zb (by kernel_rfl) (by rfl) C2) (s:=HS.out) (h:=?_);refine WT.t 6 (v:=_) (y:=by rintro w ⟨C1,C2,C3⟩;go_simp;with_reducible rfl) (s:=HS.out) (h:=?_);refine WT.t 7 (v:=.agg #[.int .i64 0,.string s,.string ByteArray.empty,.pointer (some ⟨b,0,none⟩)]) (y:=by rintro w ⟨C1,C2,C3⟩;exact zgz (by rfl) (by rfl) (by rfl) (hb72 _ _ _)) (s:=HS.out) (h:=?_);refine WT.o 8 (y:=z0y (v:=.agg #[.int .i64 0,.string s,.string ByteArray.empty,.pointer (some ⟨b,0,none⟩)]) el57 (by rfl) (by rfl) (by omega)) (h:=?_);rintro _ w3 ⟨g,rfl,ng⟩;have k23:Keeps Nb w2 w3:=(Keeps.refl Nb w2).drew.trans_nb ng.k;have HS3:Hid ((fun u:World=>u.cell? ⟨a1,0,none⟩=some (.pointer (some ⟨d,0,none⟩)) /\ u.cell? ⟨a2,0,none⟩=some (.string s) /\ u.cell? ⟨d,2,none⟩=some sv) w3):=⟨cell_of_block (k23.nb f1),cell_of_block (k23.nb f2),cell_of_block (k23.nb d2)⟩
 refine ⟨HS3.out,?_⟩;simp only [Nat.reduceAdd,qn];refine WT.o 9 (y:=z1w (news:=stp ⟨0,s,ByteArray.empty,some b⟩) el57 (rw2.keeps k23 (fun _ _ _=>n)) (by rfl) (by rfl) (zt ng.blk) (by rfl) (by simp [stp,ptr,Value.oneCell']) (by omega) (by unfold maxLen;omega) (by omega)) (h:=?_);rintro sv' w4 ⟨r4,S4,k34,hS4⟩;have d4:=k34.at (k23.nb d2) (fun e=>(hS4 _ e).2.ne ⟨_,_,k23.nb d2⟩ (by decide) rfl)
 have HS4:Hid ((fun u:World=>u.cell? ⟨a1,0,none⟩=some (.pointer (some ⟨d,0,none⟩)) /\ u.cell? ⟨a2,0,none⟩=some (.string s) /\ u.cell? ⟨d,2,none⟩=some sv) w4):=⟨cell_of_block (k34.at (k23.nb f1) (fun e=>hF1 (hS4 _ e).1)),cell_of_block (k34.at (k23.nb f2) (fun e=>hF2 (hS4 _ e).1)),cell_of_block d4⟩
 refine ⟨HS4.out,?_⟩;simp only [Nat.reduceAdd,qn];refine WT.stop (by kernel_rfl) ?_;refine WP.o 10 (v:=_) (y:=by go_simp;first | with_reducible rfl | exact ⟨rfl,rfl⟩) (h:=?_);refine WP.o 11 (v:=_) (y:=by go_simp;first | with_reducible rfl | exact ⟨rfl,rfl⟩) (h:=?_);have o4:sv'.cells=#[sv'] /\ sv'.oneCell'=true:=by obtain ⟨-,-,a,c,rfl,-⟩:=r4;exact ⟨rfl,rfl⟩
 refine WP.onlySkipE 12 (by simp only [qi];rfl) (by kernel_rfl) (by rfl) (zd (v:=sv') (n:=1) (by kernel_rfl) (by rfl) (by rfl) d4 (by rw [o4.1];rfl) (by simp [dcs]) (by rw [o4.1];simpa using o4.2)) ?_;intro w5 s5;rw [o4.1] at s5;simp only [Nat.reduceAdd,qn];refine WP.done (by kernel_rfl) ?_;go_wp2;go_end0;refine ⟨⟨_,rfl⟩,b,nb.ge,?_⟩;have M4:=(M2.nb k23).keeps k34 (fun e=>by obtain ⟨es,cl,q,-⟩:=M2.nb k23;exact (hS4 _ e).2.map q rfl);have M5:=M4.keeps s5.k (fun e=>hdm1 e.symm);have ML4:=(ML2.nb k23).keeps k34 (fun e=>by obtain ⟨es,cl,q,-⟩:=ML2.nb k23;exact (hS4 _ e).2.map q rfl);have ML5:=ML4.keeps s5.k (fun e=>hdm2 e.symm);have b4:=k34.at (k23.nb nb2) (fun e=>(hS4 _ e).2.ne ⟨_,_,k23.nb nb2⟩ (by decide) rfl)
 have b5:=s5.k.at b4 (fun e=>hbd e.symm);have r5:=r4.keeps s5.k (fun k _ ht e=>ht.ne ⟨_,_,d4⟩ (by decide) e);have k4:Keeps F w w4:=(kk2.trans_nb k23).trans k34 (fun i _ e=>(hS4 i e).1);have k5:Keeps F w w5:=k4.trans s5.k (fun i _ e=>e ▸ g1);have kz:=k5.size;have kz1:=k1.size;have kz2:=k12.size;have kz3:=k23.size;have kz4:=k34.size;have kz5:=s5.k.size;have hbl:=nb.lt;refine ⟨Up F w w5,R,⟨⟨m1,m2,sv',?_,M5,ML5,h6,?_,.inl h8,.inl h9⟩,.inl g1,?_,?_,?_,?_,fun k hk=>Up.lt g5 kz hk,fun k hk=>Nat.lt_of_lt_of_le (g6 k hk) kz⟩,fun k hk=>hk.imp id fun x=>x.1,fun k hk=>.inl hk,k5⟩
 ·exact s5.blk
 ·refine RowS.mono (F:=Up F w3 w4) (R:=R) ?_ (fun k hk=>hk.imp id fun ⟨x,y⟩=>⟨by omega,by omega⟩) (fun _ h=>h);simpa [Dk.make,List.flatMap_append] using r5
 ·
  intro c hc;by_cases e:c=b
  ·subst e;simp only [if_true];exact ⟨⟨_,b5,Bytes.nil _ _,Nat.le_refl _,Nat.zero_le _⟩,.inr ⟨nb.ge,by omega⟩⟩
  ·
   have hr:Ref D c:=by
    unfold Ref Dk.make at hc;simp only [List.mem_append,List.mem_singleton] at hc;rcases hc with ⟨p,hp | rfl,hx⟩ | hx | ⟨p,hp | rfl,hx⟩
    ·exact .inl ⟨p,hp,hx⟩
    ·exact absurd hx.symm e
    ·exact .inr (.inl hx)
    ·exact .inr (.inr ⟨p,hp,hx⟩)
    ·exact absurd (Option.some.inj hx).symm e
   simp only [e,if_false];obtain ⟨q1,q2⟩:=g2 c hr;have hcd:=H.out.ne_file hr;have hT:=q1.isT;have hT2:IsT w2 115 c:=(hT.keeps k1 n).keeps k12 (fun e=>by subst e;obtain ⟨es,cl,q,-⟩:=h4;exact hT.map q rfl);have e1:w1.heap[c]?=w.heap[c]?:=k1.block c q1.lt n;have e2:w2.heap[c]?=w1.heap[c]?:=k12.block c (Nat.lt_of_lt_of_le q1.lt kz1) (fun e=>by subst e;obtain ⟨es,cl,q,-⟩:=h4;exact hT.map q rfl);have hc2:c < w2.heap.size:=Nat.lt_of_lt_of_le (Nat.lt_of_lt_of_le q1.lt kz1) kz2;have e3:w3.heap[c]?=w2.heap[c]?:=k23.block c hc2 n;have e4:w4.heap[c]?=w3.heap[c]?:=k34.block c (Nat.lt_of_lt_of_le hc2 kz3) (fun e=>(hS4 _ e).2.ne (hT2.keeps k23 n) (by decide) rfl);have e5:w5.heap[c]?=w4.heap[c]?:=s5.k.block c (Nat.lt_of_lt_of_le (Nat.lt_of_lt_of_le hc2 kz3) kz4) hcd;exact ⟨q1.block (e5.trans (e4.trans (e3.trans (e2.trans e1)))) k5 (fun k hr hf=>g4 k hf hr),.inl q2⟩
 ·
  obtain ⟨z1,z2,z3,z4,z5,z6,z7,z8⟩:=g3;refine ⟨z1,z2,z3,z4,z5,?_,z7,?_⟩
  ·simp only [Dk.make,List.length_append,List.length_cons,List.length_nil];have:=HL.out;omega
  ·simp only [Dk.make,List.length_append,List.length_cons,List.length_nil];omega
 ·
  refine ⟨fun p hp=>?_,g3b.lasting,fun p hp=>?_⟩
  ·
   simp only [Dk.make,List.mem_append,List.mem_singleton] at hp;rcases hp with hp | rfl
   ·exact g3b.files p hp
   ·exact HM.out
  ·
   simp only [Dk.make,List.mem_append,List.mem_singleton] at hp;rcases hp with hp | rfl
   ·exact g3b.steps p hp
   ·exact .inl ⟨rfl,HM.out,_,rfl⟩
 ·
  rintro k (hk | hk) hr
  ·exact g4 k hk hr
  ·have:=g6 k hr;omega
end Go.Proofs.YtpjomdmjohjheaaGreatDoor
end
section
namespace Go.Lk
open Go.RowKit
variable {P:Program} {w w':World} {ops:Array Oper} {rest:List Oper} {dst:Option Tmp} {s x:Operand} {t ty T:TypeId} {pos:String} {aft:Array Edge} {a:Act} {Q:Exit -> Act -> World -> Prop} {v:Value}
theorem vbox1 (hx:a.eval x=v) (hv:v.cells=#[v]) (h:∀ g w',NewAt w w' g (.cells #[v] t) -> wpList P ops Q rest (a.put dst (.pointer (some ⟨g,0,none⟩))) w') :
  wpList P ops Q (⟨dst,.box t x,ty,pos,aft,none⟩ :: rest) a w:=by
 have h':=h _ _ (newAt w _);refine wpList_plain rfl fun K hK=>?_;unfold Oper.wp execOp;simp only [hx,Instr.box,newVar,newRow,hv,Sem.run_bind,Sem.run_pure,Result.andThen_ok,Sem.run,newObj];exact hK _ _ h'
end Go.Lk
namespace Go.Vfs
open Go.Lk Go.RowKit
variable {w w':World} {R R' S F F':Nat -> Prop} {d b:Nat} {x:Fl} {D:Dk} {fc:Nat -> Fl}
theorem z03 (D:Dk):(chg D).1.files=D.files /\ (chg D).1.lasting=D.lasting /\ (chg D).1.steps=D.steps /\ (chg D).1.changes=D.changes + 1 /\ (chg D).1.cap=D.cap:=by
 unfold chg;simp only;split
 ·exact ⟨rfl,rfl,rfl,rfl,rfl⟩
 ·split <;> split <;> exact ⟨rfl,rfl,rfl,rfl,rfl⟩
theorem zdq (h:Nums D) (hc:D.changes < 1000000):Nums (chg D).1:=by
 obtain ⟨e1,e2,e3,e4,e5⟩:=z03 D;obtain ⟨z1,z2,z3,z4,z5,z6,z7,z8⟩:=h;refine ⟨e5 ▸ z1,by rw [e4];omega,?_,?_,?_,e1 ▸ z6,e2 ▸ z7,by rw [e3,e4];omega⟩
 all_goals
  unfold chg
  simp only
  repeat' split
  all_goals first | omega | (simp only;omega) | exact z5 | simp
theorem DiskAt.chg (h:DiskAt w d F R D fc) {m1 m2:Nat} {sv:Value} (hd:w.heap[d]?=some (.cells (dcs m1 m2 sv D) 76 (0,0))) (hb:w'.heap[d]?=some (.cells (dcs m1 m2 sv (chg D).1) 76 (0,0))) (hk:Keeps (·=d) w w') (hc:D.changes < 1000000):DiskAt w' d F R (chg D).1 fc :=
 h.renum hd hb hk (z03 D).1 (z03 D).2.1 (z03 D).2.2.1 (zdq h.nums hc)
def MakeR (n:Nat) (D:Dk) (fc:Nat -> Fl) (s:ByteArray) (e:Int) (D':Dk) (fc':Nat -> Fl):Prop :=
 (mnB s=false /\ e=2 /\ D'=D /\ fc'=fc) \/ (mnB s=true /\ (∃ b,flook D.files s=some b) /\ e=11 /\ D'=D /\ fc'=fc) \/ (mnB s=true /\ flook D.files s=none /\ 64 <= D.files.length /\ e=5 /\ D'=D /\ fc'=fc) \/
 (mnB s=true /\ flook D.files s=none /\ D.files.length < 64 /\ D.dead=true /\ e=8 /\ D'=D /\ fc'=fc) \/
 (mnB s=true /\ flook D.files s=none /\ D.files.length < 64 /\ D.dead=false /\ e=(chg D).2.2 /\ (((chg D).2.1=1 /\ ∃ b,n <= b /\ D'=(chg D).1.make s b /\ fc'=fun k=>if k=b then ⟨[],0⟩ else fc k) \/ ((chg D).2.1 ≠ 1 /\ D'=(chg D).1 /\ fc'=fc)))
end Go.Vfs
namespace Go.Proofs.YtpjomdmjohjheaaGreatDoor
open Go.RowKit Go.Lk Go.Vfs
theorem Now.same {w w':World} {d:Nat} {F R:Nat -> Prop} {D:Dk} {fc:Nat -> Fl} (h:DiskAt w d F R D fc) (hk:Keeps Nb w w'):Now w w' d F R D fc:=Now.of (h.nb hk) ((Keeps.refl F w).trans_nb hk)
theorem _root_.Go.Vfs.Now.from {w w1 w2:World} {d:Nat} {F R:Nat -> Prop} {D:Dk} {fc:Nat -> Fl} (h:Now w1 w2 d F R D fc) (hk:Keeps F w w1):Now w w2 d F R D fc:=by
 obtain ⟨F',R',h1,h2,h3,h4⟩:=h;have:=hk.size;exact ⟨F',R',h1,fun k hk=>(h2 k hk).imp id fun x=>by omega,fun k hk=>(h3 k hk).imp id fun x=>by omega,hk.trans h4 (fun _ _ e=>e)⟩
theorem z07 {w w1:World} {d:Nat} {F R:Nat -> Prop} {D:Dk} {fc:Nat -> Fl} (h:Now w w1 d F R D fc):Calls Tryz.prog 89 #[] w1 fun e w'=>(∃ v,e=.returned v) /\ Now w w' d F R D fc :=
 (z3y w1).mono (by rintro e w' ⟨h1,rfl⟩;exact ⟨h1,h⟩)
theorem z50 (d:Nat) (s:ByteArray) (D:Dk) (F R:Nat -> Prop) (fc:Nat -> Fl) (w:World) (h:DiskAt w d F R D fc) (hs:s.size <= maxLen) (hc:D.changes < 1000000) :
  Calls Tryz.prog 26 #[.pointer (some ⟨d,0,none⟩),.string s] w fun e w'=>∃ (er:Int) (D':Dk) (fc':Nat -> Fl),e=.returned (.int .i64 er) /\ Now w w' d F R D' fc' /\ MakeR w.heap.size D fc s er D' fc':=by
 have H:=qq h;have HS:=qq hs;have HC:=qq hc;obtain ⟨⟨m1,m2,sv,h3,h4,h5,h6,h7,h8,h9⟩,g1,g2,g3,g3b,g4,g5,g6⟩:=h;clear hs hc g2 g3 g3b g4 h5 h6 h7;go_enter Tryz.func26,Tryz.ntmps26;go_wp2_with (first | go_skip | (with_reducible refine zm (t:=37) ?_) | (with_reducible refine zm (t:=9) ?_))
 refine za (vbox1 (v:=.pointer (some ⟨d,0,none⟩)) (by rfl) (by rfl) ?_);intro a1 w1 n1;simp only [Nat.reduceAdd,qn];go_wp2_with (first | go_skip | (with_reducible refine zm (t:=37) ?_) | (with_reducible refine zm (t:=9) ?_))
 refine za (vbox1 (v:=.string s) (by rfl) (by rfl) ?_);intro a2 w2 n2;simp only [Nat.reduceAdd,qn];have k2:Keeps Nb w w2:=n1.k.trans_nb n2.k;have b1:=n2.k.nb n1.blk;have b2:=n2.blk;have x1:¬ F a1:=fun e=>by have:=g5 _ e;have:=n1.ge;omega
 have x2:¬ F a2:=fun e=>by have:=g5 _ e;have:=n2.ge;have:=n1.k.size;omega
 have c1:w2.cell? ⟨a1,0,none⟩=some (.pointer (some ⟨d,0,none⟩)):=cell_of_block b1;have c2:w2.cell? ⟨a2,0,none⟩=some (.string s):=cell_of_block b2;have FA:=qq (z1m d m1 m2 sv D w2 (k2.nb h3) (h4.nb k2) s HS.out);clear n1 n2;go_wp2_with fail;refine FA.out.mono ?_;rintro _ w3 ⟨rfl,k23⟩;have k3:Keeps Nb w w3:=k2.trans_nb k23;have b13:=k23.nb b1;have b23:=k23.nb b2;have c13:w3.cell? ⟨a1,0,none⟩=some (.pointer (some ⟨d,0,none⟩)):=cell_of_block b13;have c23:w3.cell? ⟨a2,0,none⟩=some (.string s):=cell_of_block b23;clear FA b1 b2 c1 c2 k23;rcases z04 D s with ⟨q1,q2⟩ | ⟨q1,q2,q3⟩ | ⟨b,q1,q2,q3⟩
 ·rw [q2];go_wp2;go_ret;exact ⟨_,_,_,rfl,Now.same H.out k3,.inl ⟨q1,rfl,rfl,rfl⟩⟩
 ·
  rw [q3];obtain ⟨es,cl,hm,hlen⟩:=(h4.nb k3).len smT (.inr trivial);have hl64:=H.out.nums.nf;obtain ⟨nf,hnf⟩:∃ n,n=D.files.length:=⟨_,rfl⟩
  have hrun:(Builtin.len_ #[71] 3 #[.map (some m1)]).run Tryz.prog w3=.ok (.int .i64 nf) w3:=by
   rw [Go.run_len_map (P:=Tryz.prog) (w:=w3) 71 3 m1 es cl (by kernel_rfl) hm,hlen,hnf];simp [vals,goInt]
  have d3:w3.cell? ⟨d,0,none⟩=some (.map (some m1)):=cell_of_block (k3.nb h3);have HNF:=qq hnf;rw [<- hnf] at hl64;have Q1:=qq q1;have Q2:=qq q2;have H3:=qq h3;have B13:=qq b13;have B23:=qq b23;have XF1:=qq x1;have XF2:=qq x2;clear hm hlen hnf q1 q2 q3 h4 h8 h9 g1 g5 g6 h3 x1 x2 b13 b23;by_cases hl:64 <= nf
  ·go_wp2;go_ret;exact ⟨_,_,_,rfl,Now.same H.out k3,.inr (.inr (.inl ⟨Q1.out,Q2.out,by rw [<- HNF.out];exact hl,rfl,rfl,rfl⟩))⟩
  ·
   have hl2:D.files.length < 64:=by rw [<- HNF.out];omega
   have HL2:=qq hl2;cases hdd:D.dead
   ·
    have HW:Hid (Ways w3 d m1 m2 sv (chg D).1 (chg D).2.1 88 89 89 #[.pointer (some ⟨a1,0,none⟩),.pointer (some ⟨a2,0,none⟩)] #[] #[] fun w'=>∃ (D':Dk) (fc':Nat -> Fl),Now w w' d F R D' fc' /\ (((chg D).2.1=1 /\ ∃ b,w.heap.size <= b /\ D'=(chg D).1.make s b /\ fc'=fun k=>if k=b then ⟨[],0⟩ else fc k) \/ ((chg D).2.1 ≠ 1 /\ D'=(chg D).1 /\ fc'=fc))):=by
     intro w4 hb4 hk4;have D4:=(H.out.nb k3).chg (k3.nb H3.out) hb4 hk4 HC.out;have kw4:Keeps F w w4:=((Keeps.refl F w).trans_nb k3).trans hk4 (fun i _ e=>e ▸ H.out.fd);have hn:=z03 D;have nd1:¬ a1=d:=fun e=>XF1.out (e ▸ H.out.fd);have nd2:¬ a2=d:=fun e=>XF2.out (e ▸ H.out.fd);refine ⟨fun e=>⟨_,_,Now.of D4 kw4,.inr ⟨by omega,rfl,rfl⟩⟩,fun e=>?_,fun e=>?_,fun e=>?_⟩
     ·refine (zec d a1 a2 s (chg D).1 F R fc w4 D4 (hk4.at B13.out nd1) (hk4.at B23.out nd2) XF1.out XF2.out HS.out Q1.out (by rw [hn.1];exact Q2.out) (by rw [hn.1];exact HL2.out) (by rw [hn.2.2.1,hn.2.2.2.1];have:=H.out.nums.ns;omega)).mono ?_;rintro e5 w5 ⟨hv,b,hb,hN⟩;have:=kw4.size;exact ⟨hv,_,_,hN.from kw4,.inl ⟨e,b,by omega,rfl,rfl⟩⟩
     ·exact (z3y w4).mono (by rintro e5 w5 ⟨hv,rfl⟩;exact ⟨hv,_,_,Now.of D4 kw4,.inr ⟨by omega,rfl,rfl⟩⟩)
     ·exact (z3y w4).mono (by rintro e5 w5 ⟨hv,rfl⟩;exact ⟨hv,_,_,Now.of D4 kw4,.inr ⟨by omega,rfl,rfl⟩⟩)
    have hnu:=H.out.nums;have CA:=qq (z1a d m1 m2 sv D w3 (k3.nb H3.out) hdd ⟨hnu.ch.1,hnu.ch.2⟩ hnu.fu hnu.fn hnu.fe 88 89 89 #[.pointer (some ⟨a1,0,none⟩),.pointer (some ⟨a2,0,none⟩)] #[] #[] (fun _ _=>rfl) (fun _ _=>rfl) (fun _ _=>rfl) _ HW.out);have HD:=qq hdd;clear HW hdd hl2 hnu;go_wp2_with fail;refine CA.out.mono ?_;rintro _ w9 ⟨rfl,D',fc',hN,hR⟩;go_wp2;go_ret;exact ⟨_,_,_,rfl,hN,.inr (.inr (.inr (.inr ⟨Q1.out,Q2.out,HL2.out,HD.out,rfl,hR⟩)))⟩
   ·have CA:=qq (z0t d m1 m2 sv D w3 (k3.nb H3.out) hdd (.func (.func 88) #[] #[.pointer (some ⟨a1,0,none⟩),.pointer (some ⟨a2,0,none⟩)]) (.func (.func 89) #[] #[]) (.func (.func 89) #[] #[]));have HD:=qq hdd;clear hdd hl2;go_wp2_with fail;refine CA.out.mono ?_;rintro _ w9 ⟨rfl,rfl⟩;go_wp2;go_ret;exact ⟨_,_,_,rfl,Now.same H.out k3,.inr (.inr (.inr (.inl ⟨Q1.out,Q2.out,HL2.out,HD.out,rfl,rfl,rfl⟩)))⟩
 ·rw [q3];go_wp2;go_ret;exact ⟨_,_,_,rfl,Now.same H.out k3,.inr (.inl ⟨q1,⟨b,q2⟩,rfl,rfl,rfl⟩)⟩
end Go.Proofs.YtpjomdmjohjheaaGreatDoor
end
section
namespace Go.Vfs
open Go.Lk Go.RowKit
variable {w w':World} {R R' S F F':Nat -> Prop} {d b:Nat} {x:Fl} {D:Dk} {fc:Nat -> Fl}
def setf (fc:Nat -> Fl) (b:Nat) (x:Fl):Nat -> Fl:=fun k=>if k=b then x else fc k
theorem DiskAt.set (h:DiskAt w d F R D fc) (hb:Ref D b) (hk:Keeps (·=b) w w') (hx:FileAt w' R' b x) (h1:∀ k,R k -> R' k) (h2:∀ k,R' k -> R k \/ (w.heap.size <= k /\ k < w'.heap.size)):DiskAt w' d F R' D (setf fc b x):=by
 have hbd:=h.ne_file hb;obtain ⟨⟨m1,m2,sv,h3,h4,h5,h6,h7,h8,h9⟩,g1,g2,g3,g3b,g4,g5,g6⟩:=h;have hT:=(g2 b hb).1.isT;have hbF:=(g2 b hb).2;have n1:¬ m1=b:=by rintro rfl;obtain ⟨es,cl,q,-⟩:=h4;exact hT.map q rfl
 have n2:¬ m2=b:=by rintro rfl;obtain ⟨es,cl,q,-⟩:=h5;exact hT.map q rfl
 refine ⟨⟨m1,m2,sv,hk.at h3 (fun e=>hbd e.symm),h4.keeps hk n1,h5.keeps hk n2,h6,(h7.keeps hk (fun k _ ht e=>by subst e;exact ht.ne hT (by decide) rfl)).mono (fun _ h=>h) h1,h8,h9⟩,g1,?_,g3,g3b,?_,fun k hk'=>Nat.lt_of_lt_of_le (g5 k hk') hk.size,?_⟩
 ·
  intro c hc;unfold setf;by_cases e:c=b
  ·subst e;simp only [if_true];exact ⟨hx,hbF⟩
  ·simp only [e,if_false];exact ⟨((g2 c hc).1.keeps hk e (fun k hr e2=>g4 k (e2 ▸ hbF) hr)).mono h1,(g2 c hc).2⟩
 ·
  intro k hf hr;rcases h2 k hr with h | h
  ·exact g4 k hf h
  ·have:=g5 k hf;omega
 ·
  intro k hr;rcases h2 k hr with h | h
  ·exact Nat.lt_of_lt_of_le (g6 k h) hk.size
  ·exact h.2
def SyncR (D:Dk) (fc:Nat -> Fl) (s:ByteArray) (e:Int) (D':Dk) (fc':Nat -> Fl):Prop :=
 (mnB s=false /\ e=2 /\ D'=D /\ fc'=fc) \/ (mnB s=true /\ flook D.files s=none /\ e=6 /\ D'=D /\ fc'=fc) \/
 ∃ b,mnB s=true /\ flook D.files s=some b /\ ((D.dead=true /\ e=8 /\ D'=D /\ fc'=fc) \/ (D.dead=false /\ e=(chg D).2.2 /\ D'=(chg D).1 /\ fc'=if (chg D).2.1=1 then setf fc b ⟨(fc b).b,(fc b).b.length⟩ else fc))
theorem z1f {s:ByteArray} (h:flook D.files s=some b):Ref D b:=.inl ⟨_,zn h,rfl⟩
end Go.Vfs
namespace Go.Proofs.YtpjomdmjohjheaaGreatDoor
open Go.RowKit Go.Lk Go.Vfs
theorem zf4 (d b a1:Nat) (D:Dk) (F R:Nat -> Prop) (fc:Nat -> Fl) (w:World) (h:DiskAt w d F R D fc) (hb:Ref D b) (h1:w.heap[a1]?=some (.cells #[.pointer (some ⟨b,0,none⟩)] 104 (0,0))) :
  Calls Tryz.prog 121 #[.pointer (some ⟨a1,0,none⟩)] w fun e w'=>(∃ v,e=.returned v) /\ Now w w' d F R D (setf fc b ⟨(fc b).b,(fc b).b.length⟩):=by
 have H:=qq h;have HB:=qq hb;obtain ⟨⟨v,q1,q2,q3,q4⟩,q5⟩:=h.file b hb;have Q2:=qq q2;obtain ⟨ad,c,rfl,q6,q7,q8⟩:=q2;obtain ⟨n,hn⟩:∃ n,n=(fc b).b.length:=⟨_,rfl⟩
 have HN:=qq hn;rw [<- hn] at q1;have c1:w.cell? ⟨a1,0,none⟩=some (.pointer (some ⟨b,0,none⟩)):=cell_of_block h1;have c2:w.cell? ⟨b,0,none⟩=some (.slice ad n c):=(cell_of_block q1).trans rfl;have Q1:=qq q1;have Q4:=qq q4;clear h hb h1 q1 q3 q4 q5 q6 q7 q8 hn;go_enter Tryz.func121,Tryz.ntmps121;have HS:Hid ((fun u:World=>u.cell? ⟨a1,0,none⟩=some (.pointer (some ⟨b,0,none⟩)) /\ u.cell? ⟨b,0,none⟩=some (.slice ad n c)) w.drew):=⟨c1,c2⟩
 refine WT.region (fun u:World=>u.cell? ⟨a1,0,none⟩=some (.pointer (some ⟨b,0,none⟩)) /\ u.cell? ⟨b,0,none⟩=some (.slice ad n c)) 6 9 [0,1,2,3,4,5,6,7,8] (by kernel_rfl) rfl ?_;refine WT.t 0 (v:=.pointer (some ⟨b,0,none⟩)) (y:=by rintro w ⟨C1,C2⟩;exact zb (by kernel_rfl) (by rfl) C1) (s:=HS.out) (h:=?_);refine WT.t 1 (v:=.pointer (some ⟨b,0,none⟩)) (y:=by rintro w ⟨C1,C2⟩;exact zb (by kernel_rfl) (by rfl) C1) (s:=HS.out) (h:=?_);refine WT.t 2 (v:=_) (y:=by rintro w ⟨C1,C2⟩;go_simp;with_reducible rfl) (s:=HS.out) (h:=?_);refine WT.t 3 (v:=_) (y:=by rintro w ⟨C1,C2⟩;go_simp;with_reducible rfl) (s:=HS.out) (h:=?_);refine WT.t 4 (v:=.slice ad n c) (y:=by rintro w ⟨C1,C2⟩;exact zb (by kernel_rfl) (by rfl) C2) (s:=HS.out) (h:=?_);refine WT.t 5 (v:=_) (y:=by rintro w ⟨C1,C2⟩;go_simp;with_reducible rfl) (s:=HS.out) (h:=?_);refine WT.stop (by kernel_rfl) ?_;refine WP.o 6 (v:=_) (y:=by go_simp;first | with_reducible rfl | exact ⟨rfl,rfl⟩) (h:=?_);refine WP.o 7 (v:=_) (y:=by go_simp;first | with_reducible rfl | exact ⟨rfl,rfl⟩) (h:=?_);refine WP.onlySkipE 8 (by simp only [qi];rfl) (by kernel_rfl) (by rfl) (zd (v:=.int .i64 n) (n:=1) (by kernel_rfl) (by rfl) (by rfl) Q1.out (by rfl) (by simp) (by simp [Value.cells,Value.oneCell'])) ?_;intro w5 s5;simp only [Nat.reduceAdd,qn];refine WP.done (by kernel_rfl) ?_;go_wp2;go_end0;have k5:Keeps F w w5:=(Keeps.refl F w).drew.trans s5.k (fun i _ e=>e ▸ (H.out.file b HB.out).2);have kb:Keeps (·=b) w w5:=(Keeps.refl (·=b) w).drew.trans s5.k (fun _ _ e=>e);refine ⟨⟨_,rfl⟩,Now.of (F:=F) (R:=R) ?_ k5⟩;have hsz:=kb.size;have hblk:w5.heap[b]?=some (.cells #[.slice ad n c,.int .i64 ((fc b).b.length:Nat)] 115 (0,0)):=by rw [<- HN.out];exact s5.blk
 refine H.out.set HB.out kb ⟨_,hblk,?_,Nat.le_refl _,Q4.out⟩ (fun _ h=>h) (fun _ h=>.inl h);have hz:=Q2.out.keeps kb (fun k hr e=>H.out.apart k (e ▸ (H.out.file b HB.out).2) hr);simpa [HN.out] using hz
theorem zero63i:(Tryz.prog.info? 104).map (·.zero)=some (some (.pointer none)):=by kernel_rfl
theorem z3r (d:Nat) (s:ByteArray) (D:Dk) (F R:Nat -> Prop) (fc:Nat -> Fl) (w:World) (h:DiskAt w d F R D fc) (hs:s.size <= maxLen) (hc:D.changes < 1000000) :
  Calls Tryz.prog 63 #[.pointer (some ⟨d,0,none⟩),.string s] w fun e w'=>∃ (er:Int) (D':Dk) (fc':Nat -> Fl),e=.returned (.int .i64 er) /\ Now w w' d F R D' fc' /\ SyncR D fc s er D' fc':=by
 have H:=qq h;have HS:=qq hs;have HC:=qq hc;obtain ⟨⟨m1,m2,sv,h3,h4,h5,h6,h7,h8,h9⟩,g1,g2,g3,g3b,g4,g5,g6⟩:=h;have FA:=qq (z1m d m1 m2 sv D w h3 h4 s HS.out);have H3:=qq h3;clear hs hc g2 g3 g3b g4 h4 h5 h6 h7 h3 h8 h9 g1 g6;have G5:=qq g5;clear g5;go_enter Tryz.func63,Tryz.ntmps63;go_wp2_with fail;refine FA.out.mono ?_;rintro _ w1 ⟨rfl,k1⟩;obtain ⟨r,er,hr⟩:∃ r er,found D s=(r,er):=⟨_,_,rfl⟩
 have HR:=qq hr;rw [hr];clear hr FA;simp only;go_wp2_with (first | go_skip | (with_reducible refine z2q (t:=104) ?_))
 refine za (valloc (z:=.pointer none) zero63i ?_);intro a1 w2 n2;simp only [Nat.reduceAdd,qn];have c2:=n2.blk;go_wp2_with (first | go_skip | (with_reducible refine zf (t:=104) ?_))
 refine za (zc rfl (zd (v:=ptr r) (n:=1) (by kernel_rfl) (by rfl) (by rfl) c2 (by cases r <;> rfl) (by simp [Value.cells]) (by cases r <;> simp [ptr,Value.cells,Value.oneCell'])) ?_);intro w3 s3;simp only [Nat.reduceAdd,qn];have k12:=n2.k;have k3:Keeps Nb w w3:=by
  have h12:Keeps Nb w w2:=k1.trans_nb k12;exact h12.own (Nat.le_trans k1.size n2.ge) s3.k
 have x1:¬ F a1:=fun e=>by have:=G5.out _ e;have:=n2.ge;have:=k1.size;omega
 have b3:w3.heap[a1]?=some (.cells #[ptr r] 104 (0,0)):=by
  have:=s3.blk;cases r <;> exact this
 have B3:=qq b3;have X1:=qq x1;clear n2 c2 s3 k12 b3 x1;rcases z04 D s with ⟨q1,q2⟩ | ⟨q1,q2,q3⟩ | ⟨b,q1,q2,q3⟩
 ·
  obtain ⟨rfl,rfl⟩:none=r /\ (2:Int)=er:=by have:=q2.symm.trans HR.out;simpa using this
  clear q2;go_wp2;go_ret;exact ⟨_,_,_,rfl,Now.same H.out k3,.inl ⟨q1,rfl,rfl,rfl⟩⟩
 ·
  obtain ⟨rfl,rfl⟩:none=r /\ (6:Int)=er:=by have:=q3.symm.trans HR.out;simpa using this
  clear q3;go_wp2;go_ret;exact ⟨_,_,_,rfl,Now.same H.out k3,.inr (.inl ⟨q1,q2,rfl,rfl,rfl⟩)⟩
 ·
  obtain ⟨rfl,rfl⟩:some b=r /\ (0:Int)=er:=by have:=q3.symm.trans HR.out;simpa using this
  have Q1:=qq q1;have Q2:=qq q2;clear q1 q2 q3;cases hdd:D.dead
  ·
   have HW:Hid (Ways w3 d m1 m2 sv (chg D).1 (chg D).2.1 121 89 89 #[.pointer (some ⟨a1,0,none⟩)] #[] #[] fun w'=>Now w w' d F R (chg D).1 (if (chg D).2.1=1 then setf fc b ⟨(fc b).b,(fc b).b.length⟩ else fc)):=by
    intro w4 hb4 hk4;have D4:=(H.out.nb k3).chg (k3.nb H3.out) hb4 hk4 HC.out;have kw4:Keeps F w w4:=((Keeps.refl F w).trans_nb k3).trans hk4 (fun i _ e=>e ▸ H.out.fd);have nd1:¬ a1=d:=fun e=>X1.out (e ▸ H.out.fd);have hn:=z03 D;have hno:(chg D).2.1 ≠ 1 -> Now w w4 d F R (chg D).1 (if (chg D).2.1=1 then setf fc b ⟨(fc b).b,(fc b).b.length⟩ else fc):=fun e=>by rw [if_neg e];exact Now.of D4 kw4
    refine ⟨fun e=>hno (by omega),fun e=>?_,fun e=>?_,fun e=>?_⟩
    ·refine (zf4 d b a1 (chg D).1 F R fc w4 D4 (z1f (by rw [hn.1];exact Q2.out)) (hk4.at B3.out nd1)).mono ?_;rintro e5 w5 ⟨hv,hN⟩;rw [if_pos e];exact ⟨hv,hN.from kw4⟩
    ·exact z07 (hno (by omega))
    ·exact z07 (hno (by omega))
   have hnu:=H.out.nums;have CA:=qq (z1a d m1 m2 sv D w3 (k3.nb H3.out) hdd ⟨hnu.ch.1,hnu.ch.2⟩ hnu.fu hnu.fn hnu.fe 121 89 89 #[.pointer (some ⟨a1,0,none⟩)] #[] #[] (fun _ _=>rfl) (fun _ _=>rfl) (fun _ _=>rfl) _ HW.out);have HD:=qq hdd;clear HW hdd hnu;go_wp2_with fail;refine CA.out.mono ?_;rintro _ w9 ⟨rfl,hN⟩;go_wp2;go_ret;exact ⟨_,_,_,rfl,hN,.inr (.inr ⟨b,Q1.out,Q2.out,.inr ⟨HD.out,rfl,rfl,rfl⟩⟩)⟩
  ·have CA:=qq (z0t d m1 m2 sv D w3 (k3.nb H3.out) hdd (.func (.func 121) #[] #[.pointer (some ⟨a1,0,none⟩)]) (.func (.func 89) #[] #[]) (.func (.func 89) #[] #[]));have HD:=qq hdd;clear hdd;go_wp2_with fail;refine CA.out.mono ?_;rintro _ w9 ⟨rfl,rfl⟩;go_wp2;go_ret;exact ⟨_,_,_,rfl,Now.same H.out k3,.inr (.inr ⟨b,Q1.out,Q2.out,.inl ⟨HD.out,rfl,rfl,rfl⟩⟩)⟩
end Go.Proofs.YtpjomdmjohjheaaGreatDoor
end
section
namespace Go.Vfs
open Go.Lk Go.RowKit
variable {w w2 w3 w4 w5:World} {R S F S4:Nat -> Prop} {d b:Nat} {x:Fl} {D:Dk} {fc:Nat -> Fl}
def Dk.step (D:Dk) (l:List (ByteArray × Nat)) (st:Stp):Dk:={ D with files:=l,steps:=D.steps ++ [st] }
theorem DiskAt.step (h:DiskAt w d F R D fc) {m1 m2:Nat} {sv sv':Value} {l:List (ByteArray × Nat)} {st:Stp} (hd:w.heap[d]?=some (.cells (dcs m1 m2 sv D) 76 (0,0)))
  (k12:Keeps (·=m1) w w2) (M2:SMap w2 m1 (vals l)) (k23:Keeps Nb w2 w3) (k34:Keeps S4 w3 w4) (hS4:∀ k,S4 k -> F k /\ IsT w3 106 k) (r4:RowS w4 (Up F w3 w4) R 106 4 sv' (D.steps.length + 1) (D.steps.flatMap stp ++ stp st))
  (k45:Keeps (·=d) w4 w5) (s5:w5.heap[d]?=some (.cells (dcs m1 m2 sv' D) 76 (0,0))) (hf:st.f=none) (hl:l.length <= 1000000) (hgs:GoodS st) (hm:∀ p ∈ l,mnB p.1=true) (hr:∀ p ∈ l,∃ q ∈ D.files,q.2=p.2) (hst:(D.steps.length:Int) + 1 <= D.changes) :
  Now w w5 d F R (D.step l st) fc:=by
 have H:=qq h;obtain ⟨⟨n1,n2,nv,h3,h4,h5,h6,h7,h8,h9⟩,g1,g2,g3,g3b,g4,g5,g6⟩:=h;rw [hd] at h3;have e:m1=n1 /\ m2=n2 /\ sv=nv:=by simpa [dcs] using h3
 obtain ⟨rfl,rfl,rfl⟩:=e;clear h3;have n:∀ {k:Nat},¬ Nb k:=fun e=>e;have hdm1:¬ d=m1:=by rintro rfl;obtain ⟨es,cl,q,-⟩:=h4;rw [hd] at q;cases q
 have hdm2:¬ d=m2:=by rintro rfl;obtain ⟨es,cl,q,-⟩:=h5;rw [hd] at q;cases q
 have ML2:=h5.keeps k12 (fun e=>h6 e.symm);have d2:=k12.at hd hdm1;have d4:=k34.at (k23.nb d2) (fun e=>(hS4 _ e).2.ne ⟨_,_,k23.nb d2⟩ (by decide) rfl)
 have M4:=(M2.nb k23).keeps k34 (fun e=>by obtain ⟨es,cl,q,-⟩:=M2.nb k23;exact (hS4 _ e).2.map q rfl);have M5:=M4.keeps k45 (fun e=>hdm1 e.symm);have ML4:=(ML2.nb k23).keeps k34 (fun e=>by obtain ⟨es,cl,q,-⟩:=ML2.nb k23;exact (hS4 _ e).2.map q rfl);have ML5:=ML4.keeps k45 (fun e=>hdm2 e.symm);have r5:=r4.keeps k45 (fun k _ ht e=>ht.ne ⟨_,_,d4⟩ (by decide) e);have k2:Keeps F w w2:=(Keeps.refl F w).trans k12 (fun i _ e=>e ▸ h8);have k4:Keeps F w w4:=(k2.trans_nb k23).trans k34 (fun i _ e=>(hS4 i e).1);have k5:Keeps F w w5:=k4.trans k45 (fun i _ e=>e ▸ g1);have kz:=k5.size;have kz2:=k12.size;have kz3:=k23.size;have kz4:=k34.size;have kz5:=k45.size;refine ⟨Up F w w5,R,⟨⟨m1,m2,sv',?_,M5,ML5,h6,?_,.inl h8,.inl h9⟩,.inl g1,?_,?_,?_,?_,fun k hk=>Up.lt g5 kz hk,fun k hk=>Nat.lt_of_lt_of_le (g6 k hk) kz⟩,fun k hk=>hk.imp id fun x=>x.1,fun k hk=>.inl hk,k5⟩
 ·exact s5
 ·refine RowS.mono (F:=Up F w3 w4) (R:=R) ?_ (fun k hk=>hk.imp id fun ⟨x,y⟩=>⟨by omega,by omega⟩) (fun _ h=>h);simpa [Dk.step,List.flatMap_append] using r5
 ·
  intro c hc;have hr:Ref D c:=by
   unfold Ref Dk.step at hc;simp only [List.mem_append,List.mem_singleton] at hc;rcases hc with ⟨p,hp,hx⟩ | hx | ⟨p,hp | rfl,hx⟩
   ·obtain ⟨q,hq,e⟩:=hr p hp;exact .inl ⟨q,hq,e.trans hx⟩
   ·exact .inr (.inl hx)
   ·exact .inr (.inr ⟨p,hp,hx⟩)
   ·rw [hf] at hx;cases hx
  obtain ⟨q1,q2⟩:=g2 c hr;have hcd:=H.out.ne_file hr;have hT:=q1.isT;have hcm:¬ c=m1:=fun e=>by subst e;obtain ⟨es,cl,q,-⟩:=h4;exact hT.map q rfl
  have hT2:IsT w2 115 c:=hT.keeps k12 hcm;have e2:w2.heap[c]?=w.heap[c]?:=k12.block c q1.lt hcm;have hc2:c < w2.heap.size:=Nat.lt_of_lt_of_le q1.lt kz2;have e3:w3.heap[c]?=w2.heap[c]?:=k23.block c hc2 n;have e4:w4.heap[c]?=w3.heap[c]?:=k34.block c (Nat.lt_of_lt_of_le hc2 kz3) (fun e=>(hS4 _ e).2.ne (hT2.keeps k23 n) (by decide) rfl);have e5:w5.heap[c]?=w4.heap[c]?:=k45.block c (Nat.lt_of_lt_of_le (Nat.lt_of_lt_of_le hc2 kz3) kz4) hcd;exact ⟨q1.block (e5.trans (e4.trans (e3.trans e2))) k5 (fun k hr hf=>g4 k hf hr),.inl q2⟩
 ·obtain ⟨z1,z2,z3,z4,z5,z6,z7,z8⟩:=g3;refine ⟨z1,z2,z3,z4,z5,hl,z7,?_⟩;simp only [Dk.step,List.length_append,List.length_cons,List.length_nil];omega
 ·
  refine ⟨hm,g3b.lasting,fun p hp=>?_⟩;simp only [Dk.step,List.mem_append,List.mem_singleton] at hp;rcases hp with hp | rfl
  ·exact g3b.steps p hp
  ·exact hgs
 ·
  rintro k (hk | hk) hr
  ·exact g4 k hk hr
  ·have:=g6 k hr;omega
def fdel (l:List (ByteArray × Nat)) (s:ByteArray):List (ByteArray × Nat):=l.filter fun p=>decide (p.1 ≠ s)
theorem z3d (l:List (ByteArray × Nat)) (s:ByteArray):sdel (vals l) s=vals (fdel l s):=by
 unfold sdel vals fdel;rw [List.filter_map];rfl
def fput (l:List (ByteArray × Nat)) (s:ByteArray) (b:Nat):List (ByteArray × Nat):=if l.any (fun p=>decide (p.1=s)) then l.map fun p=>if p.1=s then (s,b) else p else l ++ [(s,b)]
theorem sput_vals' (l:List (ByteArray × Nat)) (s:ByteArray) (b:Nat):sput (vals l) s (.pointer (some ⟨b,0,none⟩))=vals (fput l s b):=by
 unfold sput vals fput shas;rw [List.any_map,show (l.any ((fun p:ByteArray × Value=>decide (p.1=s)) ∘ fun p:ByteArray × Nat=>(p.1,Value.pointer (some ⟨p.2,0,none⟩))))=l.any (fun p=>decide (p.1=s)) from rfl];by_cases h:(l.any fun p=>decide (p.1=s))=true
 ·rw [if_pos h,if_pos h];simp only [List.map_map];refine List.map_congr_left fun p hp=>?_;simp only [Function.comp];split <;> rfl
 ·rw [if_neg h,if_neg h];simp
end Go.Vfs
end
section
namespace Go.Vfs
open Go.Lk Go.RowKit
def Dk.rem (D:Dk) (s:ByteArray):Dk:=D.step (fdel D.files s) ⟨2,s,ByteArray.empty,none⟩
def RemR (D:Dk) (s:ByteArray) (e:Int) (D':Dk):Prop :=
 (mnB s=false /\ e=2 /\ D'=D) \/ (mnB s=true /\ flook D.files s=none /\ e=6 /\ D'=D) \/
 ∃ b,mnB s=true /\ flook D.files s=some b /\ ((D.dead=true /\ e=8 /\ D'=D) \/ (D.dead=false /\ e=(chg D).2.2 /\ D'=if (chg D).2.1=1 then (chg D).1.rem s else (chg D).1))
end Go.Vfs
namespace Go.Proofs.YtpjomdmjohjheaaGreatDoor
open Go.RowKit Go.Lk Go.Vfs
theorem zd8 {P:Program} {w:World} {a:Act} {dst:Option Tmp} {t ty:TypeId} {pos:String} {aft:Array Edge} {gd:Option (Nat × Bool)} {x y:Operand} {u1 u2 v:Value} (hx:a.eval x=u1) (hy:a.eval y=u2) (h:(Instr.build t #[(0,u1),(1,u2)]).run P w=.ok v w) :
  (execOp a.eval ⟨dst,.build t #[(0,x),(1,y)],ty,pos,aft,gd⟩).run P w=.ok (.value v) w:=by
 unfold execOp;simp [hx,hy,h,Sem.run_bind,Result.andThen_ok,Sem.run_pure]
theorem zgv (d a1 a2:Nat) (s:ByteArray) (D:Dk) (F R:Nat -> Prop) (fc:Nat -> Fl) (w:World) (h:DiskAt w d F R D fc) (h1:w.heap[a1]?=some (.cells #[.pointer (some ⟨d,0,none⟩)] 37 (0,0))) (h2:w.heap[a2]?=some (.cells #[.string s] 9 (0,0)))
  (hF1:¬ F a1) (hF2:¬ F a2) (hs:s.size <= maxLen) (hmn:mnB s=true) (hst:(D.steps.length:Int) + 1 <= D.changes) :
  Calls Tryz.prog 149 #[.pointer (some ⟨a1,0,none⟩),.pointer (some ⟨a2,0,none⟩)] w fun e w'=>(∃ v,e=.returned v) /\ Now w w' d F R (D.rem s) fc:=by
 have H:=qq h;obtain ⟨⟨m1,m2,sv,h3,h4,h5,h6,h7,h8,h9⟩,g1,g2,g3,g3b,g4,g5,g6⟩:=h;have hch:D.changes <= 1000000:=g3.ch.2;have hb72:∀ (W:World) (n:ByteArray),(Instr.build 106 #[(0,.int .i64 2),(1,.string n)]).run Tryz.prog W=.ok (.agg #[.int .i64 2,.string n,.string ByteArray.empty,.pointer none]) W:=fun _ _=>by kernel_rfl
 have n:∀ {k:Nat},¬ Nb k:=fun e=>e;have HS0:=qq hs;have HMN:=qq hmn;clear hmn;have hdm1:¬ d=m1:=by rintro rfl;obtain ⟨es,cl,q,-⟩:=h4;rw [h3] at q;cases q
 have hA1:¬ a1=m1:=by rintro rfl;exact hF1 h8
 have hA2:¬ a2=m1:=by rintro rfl;exact hF2 h8
 clear hs;go_enter Tryz.func149,Tryz.ntmps149;go_wp2;have HS:Hid ((fun u:World=>u.cell? ⟨a1,0,none⟩=some (.pointer (some ⟨d,0,none⟩)) /\ u.cell? ⟨a2,0,none⟩=some (.string s) /\ u.cell? ⟨d,0,none⟩=some (.map (some m1))) w.drew):=⟨cell_of_block h1,cell_of_block h2,cell_of_block h3⟩
 refine WT.region (fun u:World=>u.cell? ⟨a1,0,none⟩=some (.pointer (some ⟨d,0,none⟩)) /\ u.cell? ⟨a2,0,none⟩=some (.string s) /\ u.cell? ⟨d,0,none⟩=some (.map (some m1))) 6 6 [0,1,2,3,4,5] (by kernel_rfl) rfl ?_;refine WT.t 0 (v:=.pointer (some ⟨d,0,none⟩)) (y:=by rintro w ⟨C1,C2,C3⟩;exact zb (by kernel_rfl) (by rfl) C1) (s:=HS.out) (h:=?_);refine WT.t 1 (v:=_) (y:=by rintro w ⟨C1,C2,C3⟩;go_simp;with_reducible rfl) (s:=HS.out) (h:=?_);refine WT.t 2 (v:=_) (y:=by rintro w ⟨C1,C2,C3⟩;go_simp;with_reducible rfl) (s:=HS.out) (h:=?_);refine WT.t 3 (v:=.map (some m1)) (y:=by rintro w ⟨C1,C2,C3⟩;exact zb (by kernel_rfl) (by rfl) C3) (s:=HS.out) (h:=?_);refine WT.t 4 (v:=.string s) (y:=by rintro w ⟨C1,C2,C3⟩;exact zb (by kernel_rfl) (by rfl) C2) (s:=HS.out) (h:=?_);have M1d:SMap w.drew m1 (vals D.files):=h4;refine WT.o 5 (y:=z5b M1d smT (by rfl) (by rfl) HS0.out) (h:=?_);rintro _ w2 ⟨M2,k2⟩;rw [z3d] at M2;have k12:Keeps (·=m1) w w2:=(Keeps.refl (·=m1) w).drew.trans k2 (fun _ _ e=>e);have d2:=k12.at h3 hdm1;have f1:=k12.at h1 hA1;have f2:=k12.at h2 hA2;have HS2:Hid ((fun u:World=>u.cell? ⟨a1,0,none⟩=some (.pointer (some ⟨d,0,none⟩)) /\ u.cell? ⟨a2,0,none⟩=some (.string s) /\ u.cell? ⟨d,0,none⟩=some (.map (some m1))) w2):=⟨cell_of_block f1,cell_of_block f2,cell_of_block d2⟩
 refine ⟨HS2.out,?_⟩;simp only [Nat.reduceAdd,qn];refine WT.stop (by kernel_rfl) ?_;refine WP.done (by kernel_rfl) ?_
 have rw2:RowS w2 F R 106 4 sv D.steps.length (D.steps.flatMap stp):=h7.keeps k12 (fun k _ ht e=>by
  subst e;obtain ⟨es,cl,q,-⟩:=h4;exact ht.map q rfl)
 have H1:=qq h1;have H2:=qq h2;have H3:=qq h3;clear HS HS2 M1d k2 h1 h2 h3;go_wp2;have HS:Hid ((fun u:World=>u.cell? ⟨a1,0,none⟩=some (.pointer (some ⟨d,0,none⟩)) /\ u.cell? ⟨a2,0,none⟩=some (.string s) /\ u.cell? ⟨d,2,none⟩=some sv) w2.drew):=⟨cell_of_block f1,cell_of_block f2,cell_of_block d2⟩
 refine WT.region (fun u:World=>u.cell? ⟨a1,0,none⟩=some (.pointer (some ⟨d,0,none⟩)) /\ u.cell? ⟨a2,0,none⟩=some (.string s) /\ u.cell? ⟨d,2,none⟩=some sv) 9 12 [0,1,2,3,4,5,6,7,8,9,10,11] (by kernel_rfl) rfl ?_;refine WT.t 0 (v:=.pointer (some ⟨d,0,none⟩)) (y:=by rintro w ⟨C1,C2,C3⟩;exact zb (by kernel_rfl) (by rfl) C1) (s:=HS.out) (h:=?_);refine WT.t 1 (v:=.pointer (some ⟨d,0,none⟩)) (y:=by rintro w ⟨C1,C2,C3⟩;exact zb (by kernel_rfl) (by rfl) C1) (s:=HS.out) (h:=?_);refine WT.t 2 (v:=_) (y:=by rintro w ⟨C1,C2,C3⟩;go_simp;with_reducible rfl) (s:=HS.out) (h:=?_);refine WT.t 3 (v:=_) (y:=by rintro w ⟨C1,C2,C3⟩;go_simp;with_reducible rfl) (s:=HS.out) (h:=?_);refine WT.t 4 (v:=sv) (y:=by rintro w ⟨C1,C2,C3⟩;exact zb (by kernel_rfl) (by rfl) C3) (s:=HS.out) (h:=?_);refine WT.t 5 (v:=.string s) (y:=by rintro w ⟨C1,C2,C3⟩;exact zb (by kernel_rfl) (by rfl) C2) (s:=HS.out) (h:=?_);refine WT.t 6 (v:=.agg #[.int .i64 2,.string s,.string ByteArray.empty,.pointer none]) (y:=by rintro w ⟨C1,C2,C3⟩;exact zd8 (by rfl) (by rfl) (hb72 _ _)) (s:=HS.out) (h:=?_);refine WT.o 7 (y:=z0y (v:=.agg #[.int .i64 2,.string s,.string ByteArray.empty,.pointer none]) el57 (by rfl) (by rfl) (by omega)) (h:=?_);rintro _ w3 ⟨g,rfl,ng⟩;have k23:Keeps Nb w2 w3:=(Keeps.refl Nb w2).drew.trans_nb ng.k;have HS3:Hid ((fun u:World=>u.cell? ⟨a1,0,none⟩=some (.pointer (some ⟨d,0,none⟩)) /\ u.cell? ⟨a2,0,none⟩=some (.string s) /\ u.cell? ⟨d,2,none⟩=some sv) w3):=⟨cell_of_block (k23.nb f1),cell_of_block (k23.nb f2),cell_of_block (k23.nb d2)⟩
 refine ⟨HS3.out,?_⟩;simp only [Nat.reduceAdd,qn];have hns:=g3.ns;refine WT.o 8 (y:=z1w (news:=stp ⟨2,s,ByteArray.empty,none⟩) el57 (rw2.keeps k23 (fun _ _ _=>n)) (by rfl) (by rfl) (zt ng.blk) (by rfl) (by simp [stp,ptr,Value.oneCell']) (by omega) (by unfold maxLen;omega) (by omega)) (h:=?_);rintro sv' w4 ⟨r4,S4,k34,hS4⟩;have d4:=k34.at (k23.nb d2) (fun e=>(hS4 _ e).2.ne ⟨_,_,k23.nb d2⟩ (by decide) rfl)
 have HS4:Hid ((fun u:World=>u.cell? ⟨a1,0,none⟩=some (.pointer (some ⟨d,0,none⟩)) /\ u.cell? ⟨a2,0,none⟩=some (.string s) /\ u.cell? ⟨d,2,none⟩=some sv) w4):=⟨cell_of_block (k34.at (k23.nb f1) (fun e=>hF1 (hS4 _ e).1)),cell_of_block (k34.at (k23.nb f2) (fun e=>hF2 (hS4 _ e).1)),cell_of_block d4⟩
 refine ⟨HS4.out,?_⟩;simp only [Nat.reduceAdd,qn];refine WT.stop (by kernel_rfl) ?_;refine WP.o 9 (v:=_) (y:=by go_simp;first | with_reducible rfl | exact ⟨rfl,rfl⟩) (h:=?_);refine WP.o 10 (v:=_) (y:=by go_simp;first | with_reducible rfl | exact ⟨rfl,rfl⟩) (h:=?_);have o4:sv'.cells=#[sv'] /\ sv'.oneCell'=true:=by obtain ⟨-,-,a,c,rfl,-⟩:=r4;exact ⟨rfl,rfl⟩
 refine WP.onlySkipE 11 (by simp only [qi];rfl) (by kernel_rfl) (by rfl) (zd (v:=sv') (n:=1) (by kernel_rfl) (by rfl) (by rfl) d4 (by rw [o4.1];rfl) (by simp [dcs]) (by rw [o4.1];simpa using o4.2)) ?_;intro w5 s5;rw [o4.1] at s5;simp only [Nat.reduceAdd,qn];refine WP.done (by kernel_rfl) ?_;go_wp2;go_end0;refine ⟨⟨_,rfl⟩,H.out.step H3.out k12 M2 k23 k34 hS4 r4 s5.k s5.blk rfl ?_ (.inr (.inr ⟨rfl,HMN.out,rfl⟩)) ?_ ?_ hst⟩
 ·exact Nat.le_trans (List.length_filter_le _ _) g3.nf
 ·exact fun p hp=>g3b.files p (List.mem_filter.1 hp).1
 ·exact fun p hp=>⟨p,(List.mem_filter.1 hp).1,rfl⟩
theorem z6h (d:Nat) (s:ByteArray) (D:Dk) (F R:Nat -> Prop) (fc:Nat -> Fl) (w:World) (h:DiskAt w d F R D fc) (hs:s.size <= maxLen) (hc:D.changes < 1000000) :
  Calls Tryz.prog 115 #[.pointer (some ⟨d,0,none⟩),.string s] w fun e w'=>∃ (er:Int) (D':Dk),e=.returned (.int .i64 er) /\ Now w w' d F R D' fc /\ RemR D s er D':=by
 have H:=qq h;have HS:=qq hs;have HC:=qq hc;obtain ⟨⟨m1,m2,sv,h3,h4,h5,h6,h7,h8,h9⟩,g1,g2,g3,g3b,g4,g5,g6⟩:=h;have H3:=qq h3;have G5:=qq g5;have H4:=qq h4;clear hs hc g2 g3 g3b g4 h5 h6 h7 h3 h4 h8 h9 g1 g5 g6;go_enter Tryz.func115,Tryz.ntmps115;go_wp2_with (first | go_skip | (with_reducible refine zm (t:=37) ?_) | (with_reducible refine zm (t:=9) ?_))
 refine za (vbox1 (v:=.pointer (some ⟨d,0,none⟩)) (by rfl) (by rfl) ?_);intro a1 w1 n1;simp only [Nat.reduceAdd,qn];go_wp2_with (first | go_skip | (with_reducible refine zm (t:=37) ?_) | (with_reducible refine zm (t:=9) ?_))
 refine za (vbox1 (v:=.string s) (by rfl) (by rfl) ?_);intro a2 w2 n2;simp only [Nat.reduceAdd,qn];have k2:Keeps Nb w w2:=n1.k.trans_nb n2.k;have b1:=n2.k.nb n1.blk;have b2:=n2.blk;have x1:¬ F a1:=fun e=>by have:=G5.out _ e;have:=n1.ge;omega
 have x2:¬ F a2:=fun e=>by have:=G5.out _ e;have:=n2.ge;have:=n1.k.size;omega
 have XF1:=qq x1;have XF2:=qq x2;have c1:w2.cell? ⟨a1,0,none⟩=some (.pointer (some ⟨d,0,none⟩)):=cell_of_block b1;have c2:w2.cell? ⟨a2,0,none⟩=some (.string s):=cell_of_block b2;have FA:=qq (z1m d m1 m2 sv D w2 (k2.nb H3.out) (H4.out.nb k2) s HS.out);clear n1 n2 x1 x2;go_wp2_with fail;refine FA.out.mono ?_;rintro _ w3 ⟨rfl,k23⟩;have k3:Keeps Nb w w3:=k2.trans_nb k23;have B3:=qq (k23.nb b1);have B23:=qq (k23.nb b2);have c13:w3.cell? ⟨a1,0,none⟩=some (.pointer (some ⟨d,0,none⟩)):=cell_of_block B3.out;have c23:w3.cell? ⟨a2,0,none⟩=some (.string s):=cell_of_block B23.out;clear FA b1 b2 c1 c2 k23 k2;rcases z04 D s with ⟨q1,q2⟩ | ⟨q1,q2,q3⟩ | ⟨b,q1,q2,q3⟩
 ·rw [q2];clear q2;go_wp2;go_ret;exact ⟨_,_,rfl,Now.same H.out k3,.inl ⟨q1,rfl,rfl⟩⟩
 ·rw [q3];clear q3;go_wp2;go_ret;exact ⟨_,_,rfl,Now.same H.out k3,.inr (.inl ⟨q1,q2,rfl,rfl⟩)⟩
 ·
  rw [q3];have Q1:=qq q1;have Q2:=qq q2;clear q1 q2 q3;cases hdd:D.dead
  ·
   have HW:Hid (Ways w3 d m1 m2 sv (chg D).1 (chg D).2.1 149 89 89 #[.pointer (some ⟨a1,0,none⟩),.pointer (some ⟨a2,0,none⟩)] #[] #[] fun w'=>Now w w' d F R (if (chg D).2.1=1 then (chg D).1.rem s else (chg D).1) fc):=by
    intro w4 hb4 hk4;have D4:=(H.out.nb k3).chg (k3.nb H3.out) hb4 hk4 HC.out;have kw4:Keeps F w w4:=((Keeps.refl F w).trans_nb k3).trans hk4 (fun i _ e=>e ▸ H.out.fd);have nd1:¬ a1=d:=fun e=>XF1.out (e ▸ H.out.fd);have nd2:¬ a2=d:=fun e=>XF2.out (e ▸ H.out.fd);have hn:=z03 D;have hno:(chg D).2.1 ≠ 1 -> Now w w4 d F R (if (chg D).2.1=1 then (chg D).1.rem s else (chg D).1) fc:=fun e=>by rw [if_neg e];exact Now.of D4 kw4
    refine ⟨fun e=>hno (by omega),fun e=>?_,fun e=>?_,fun e=>?_⟩
    ·refine (zgv d a1 a2 s (chg D).1 F R fc w4 D4 (hk4.at B3.out nd1) (hk4.at B23.out nd2) XF1.out XF2.out HS.out Q1.out (by rw [hn.2.2.1,hn.2.2.2.1];have:=H.out.nums.ns;omega)).mono ?_;rintro e5 w5 ⟨hv,hN⟩;rw [if_pos e];exact ⟨hv,hN.from kw4⟩
    ·exact z07 (hno (by omega))
    ·exact z07 (hno (by omega))
   have hnu:=H.out.nums;have CA:=qq (z1a d m1 m2 sv D w3 (k3.nb H3.out) hdd ⟨hnu.ch.1,hnu.ch.2⟩ hnu.fu hnu.fn hnu.fe 149 89 89 #[.pointer (some ⟨a1,0,none⟩),.pointer (some ⟨a2,0,none⟩)] #[] #[] (fun _ _=>rfl) (fun _ _=>rfl) (fun _ _=>rfl) _ HW.out);have HD:=qq hdd;clear HW hdd hnu;go_wp2_with fail;refine CA.out.mono ?_;rintro _ w9 ⟨rfl,hN⟩;go_wp2;go_ret;exact ⟨_,_,rfl,hN,.inr (.inr ⟨b,Q1.out,Q2.out,.inr ⟨HD.out,rfl,rfl⟩⟩)⟩
  ·have CA:=qq (z0t d m1 m2 sv D w3 (k3.nb H3.out) hdd (.func (.func 149) #[] #[.pointer (some ⟨a1,0,none⟩),.pointer (some ⟨a2,0,none⟩)]) (.func (.func 89) #[] #[]) (.func (.func 89) #[] #[]));have HD:=qq hdd;clear hdd;go_wp2_with fail;refine CA.out.mono ?_;rintro _ w9 ⟨rfl,rfl⟩;go_wp2;go_ret;exact ⟨_,_,rfl,Now.same H.out k3,.inr (.inr ⟨b,Q1.out,Q2.out,.inl ⟨HD.out,rfl,rfl⟩⟩)⟩
end Go.Proofs.YtpjomdmjohjheaaGreatDoor
end
section
namespace Go.Vfs
open Go.Lk Go.RowKit
def Dk.ren (D:Dk) (s t:ByteArray) (b:Nat):Dk:=D.step (fput (fdel D.files s) t b) ⟨1,s,t,none⟩
def RenR (D:Dk) (s t:ByteArray) (e:Int) (D':Dk):Prop :=
 (mnB t=false /\ e=2 /\ D'=D) \/ (mnB t=true /\ mnB s=false /\ e=2 /\ D'=D) \/ (mnB t=true /\ mnB s=true /\ flook D.files s=none /\ e=6 /\ D'=D) \/
 ∃ b,mnB t=true /\ mnB s=true /\ flook D.files s=some b /\ ((D.dead=true /\ e=8 /\ D'=D) \/ (D.dead=false /\ e=(chg D).2.2 /\ D'=if (chg D).2.1=1 then (chg D).1.ren s t b else (chg D).1))
variable {D:Dk} {l:List (ByteArray × Nat)} {s t:ByteArray} {b:Nat}
theorem za2 (h:flook l s=some b):(fdel l s).length + 1 <= l.length:=by
 have h1:=zn h;have h2:(fdel l s).length < l.length:=by
  unfold fdel;exact List.length_filter_lt_length_iff_exists.2 ⟨_,h1,by simp⟩
 omega
theorem z73 (h:flook l s=some b) (t:ByteArray):(fput (fdel l s) t b).length <= l.length:=by
 have:=za2 h;unfold fput;split
 ·rw [List.length_map];omega
 ·rw [List.length_append];simpa using this
theorem z3w {p:ByteArray × Nat} (h:p ∈ fput l t b):p ∈ l \/ p=(t,b):=by
 unfold fput at h;split at h
 ·
  obtain ⟨q,hq,e⟩:=List.mem_map.1 h;split at e
  ·exact .inr e.symm
  ·exact .inl (e ▸ hq)
 ·
  rcases List.mem_append.1 h with h | h
  ·exact .inl h
  ·exact .inr (by simpa using h)
theorem zd7 (h:∀ p ∈ l,mnB p.1=true) (ht:mnB t=true):∀ p ∈ fput (fdel l s) t b,mnB p.1=true:=by
 intro p hp;rcases z3w hp with h1 | rfl
 ·exact h p (List.mem_filter.1 h1).1
 ·exact ht
theorem zeq (h:flook l s=some b):∀ p ∈ fput (fdel l s) t b,∃ q ∈ l,q.2=p.2:=by
 intro p hp;rcases z3w hp with h1 | rfl
 ·exact ⟨p,(List.mem_filter.1 h1).1,rfl⟩
 ·exact ⟨_,zn h,rfl⟩
end Go.Vfs
namespace Go.Proofs.YtpjomdmjohjheaaGreatDoor
open Go.RowKit Go.Lk Go.Vfs
theorem zgw (d a1 a2 a3 a4 b:Nat) (s t:ByteArray) (D:Dk) (F R:Nat -> Prop) (fc:Nat -> Fl) (w:World) (h:DiskAt w d F R D fc) (h1:w.heap[a1]?=some (.cells #[.pointer (some ⟨d,0,none⟩)] 37 (0,0))) (h2:w.heap[a2]?=some (.cells #[.string s] 9 (0,0)))
  (h2b:w.heap[a3]?=some (.cells #[.pointer (some ⟨b,0,none⟩)] 104 (0,0))) (h2c:w.heap[a4]?=some (.cells #[.string t] 9 (0,0))) (hF1:¬ F a1) (hF2:¬ F a2) (hF3:¬ F a3) (hF4:¬ F a4) (hs:s.size <= maxLen) (ht:t.size <= maxLen) (hmt:mnB t=true) (hfl:flook D.files s=some b) (hst:(D.steps.length:Int) + 1 <= D.changes) :
  Calls Tryz.prog 150 #[.pointer (some ⟨a1,0,none⟩),.pointer (some ⟨a2,0,none⟩),.pointer (some ⟨a3,0,none⟩),.pointer (some ⟨a4,0,none⟩)] w fun e w'=>(∃ v,e=.returned v) /\ Now w w' d F R (D.ren s t b) fc:=by
 have H:=qq h;obtain ⟨⟨m1,m2,sv,h3,h4,h5,h6,h7,h8,h9⟩,g1,g2,g3,g3b,g4,g5,g6⟩:=h;have hch:D.changes <= 1000000:=g3.ch.2;have hb72:∀ (W:World) (n m:ByteArray),(Instr.build 106 #[(0,.int .i64 1),(1,.string n),(2,.string m)]).run Tryz.prog W=.ok (.agg #[.int .i64 1,.string n,.string m,.pointer none]) W:=fun _ _ _=>by kernel_rfl
 have n:∀ {k:Nat},¬ Nb k:=fun e=>e;have HS0:=qq hs;have HT0:=qq ht;have hdm1:¬ d=m1:=by rintro rfl;obtain ⟨es,cl,q,-⟩:=h4;rw [h3] at q;cases q
 have hA1:¬ a1=m1:=by rintro rfl;exact hF1 h8
 have hA2:¬ a2=m1:=by rintro rfl;exact hF2 h8
 have hA3:¬ a3=m1:=by rintro rfl;exact hF3 h8
 have hA4:¬ a4=m1:=by rintro rfl;exact hF4 h8
 have HFL:=qq hfl;have HMT:=qq hmt;clear hs ht hfl hmt;go_enter Tryz.func150,Tryz.ntmps150;go_wp2;have HS:Hid ((fun u:World=>u.cell? ⟨a1,0,none⟩=some (.pointer (some ⟨d,0,none⟩)) /\ u.cell? ⟨a2,0,none⟩=some (.string s) /\ u.cell? ⟨d,0,none⟩=some (.map (some m1))) w.drew):=⟨cell_of_block h1,cell_of_block h2,cell_of_block h3⟩
 refine WT.region (fun u:World=>u.cell? ⟨a1,0,none⟩=some (.pointer (some ⟨d,0,none⟩)) /\ u.cell? ⟨a2,0,none⟩=some (.string s) /\ u.cell? ⟨d,0,none⟩=some (.map (some m1))) 6 6 [0,1,2,3,4,5] (by kernel_rfl) rfl ?_;refine WT.t 0 (v:=.pointer (some ⟨d,0,none⟩)) (y:=by rintro w ⟨C1,C2,C3⟩;exact zb (by kernel_rfl) (by rfl) C1) (s:=HS.out) (h:=?_);refine WT.t 1 (v:=_) (y:=by rintro w ⟨C1,C2,C3⟩;go_simp;with_reducible rfl) (s:=HS.out) (h:=?_);refine WT.t 2 (v:=_) (y:=by rintro w ⟨C1,C2,C3⟩;go_simp;with_reducible rfl) (s:=HS.out) (h:=?_);refine WT.t 3 (v:=.map (some m1)) (y:=by rintro w ⟨C1,C2,C3⟩;exact zb (by kernel_rfl) (by rfl) C3) (s:=HS.out) (h:=?_);refine WT.t 4 (v:=.string s) (y:=by rintro w ⟨C1,C2,C3⟩;exact zb (by kernel_rfl) (by rfl) C2) (s:=HS.out) (h:=?_);have M1d:SMap w.drew m1 (vals D.files):=h4;refine WT.o 5 (y:=z5b M1d smT (by rfl) (by rfl) HS0.out) (h:=?_);rintro _ w2 ⟨M2,k2⟩;rw [z3d] at M2;have k12:Keeps (·=m1) w w2:=(Keeps.refl (·=m1) w).drew.trans k2 (fun _ _ e=>e);have d2:=k12.at h3 hdm1;have f1:=k12.at h1 hA1;have f2:=k12.at h2 hA2;have HS2:Hid ((fun u:World=>u.cell? ⟨a1,0,none⟩=some (.pointer (some ⟨d,0,none⟩)) /\ u.cell? ⟨a2,0,none⟩=some (.string s) /\ u.cell? ⟨d,0,none⟩=some (.map (some m1))) w2):=⟨cell_of_block f1,cell_of_block f2,cell_of_block d2⟩
 refine ⟨HS2.out,?_⟩;simp only [Nat.reduceAdd,qn];refine WT.stop (by kernel_rfl) ?_;refine WP.done (by kernel_rfl) ?_;have f3:=k12.at h2b hA3;have f4:=k12.at h2c hA4;clear HS HS2;go_wp2;have HSb:Hid ((fun u:World=>u.cell? ⟨a1,0,none⟩=some (.pointer (some ⟨d,0,none⟩)) /\ u.cell? ⟨a4,0,none⟩=some (.string t) /\ u.cell? ⟨a3,0,none⟩=some (.pointer (some ⟨b,0,none⟩)) /\ u.cell? ⟨d,0,none⟩=some (.map (some m1))) w2.drew):=⟨cell_of_block f1,cell_of_block f4,cell_of_block f3,cell_of_block d2⟩
 refine WT.region (fun u:World=>u.cell? ⟨a1,0,none⟩=some (.pointer (some ⟨d,0,none⟩)) /\ u.cell? ⟨a4,0,none⟩=some (.string t) /\ u.cell? ⟨a3,0,none⟩=some (.pointer (some ⟨b,0,none⟩)) /\ u.cell? ⟨d,0,none⟩=some (.map (some m1))) 6 7 [0,1,2,3,4,5,6] (by kernel_rfl) rfl ?_;refine WT.take 0 (v:=.pointer (some ⟨d,0,none⟩)) (by simp only [qi];rfl) (by kernel_rfl) (by exact fun _ _ _ h=>h) (by rfl) (by rintro w ⟨C1,C2,C3,C4⟩;exact zb (by kernel_rfl) (by rfl) C1) HSb.out ?_;simp only [Nat.reduceAdd,qn];refine WT.take 1 (v:=_) (by simp only [qi];rfl) (by kernel_rfl) (by exact fun _ _ _ h=>h) (by rfl) (by rintro w ⟨C1,C2,C3,C4⟩;go_simp;with_reducible rfl) HSb.out ?_;simp only [Nat.reduceAdd,qn];refine WT.take 2 (v:=_) (by simp only [qi];rfl) (by kernel_rfl) (by exact fun _ _ _ h=>h) (by rfl) (by rintro w ⟨C1,C2,C3,C4⟩;go_simp;with_reducible rfl) HSb.out ?_;simp only [Nat.reduceAdd,qn];refine WT.take 3 (v:=.map (some m1)) (by simp only [qi];rfl) (by kernel_rfl) (by exact fun _ _ _ h=>h) (by rfl) (by rintro w ⟨C1,C2,C3,C4⟩;exact zb (by kernel_rfl) (by rfl) C4) HSb.out ?_;simp only [Nat.reduceAdd,qn];refine WT.take 4 (v:=.string t) (by simp only [qi];rfl) (by kernel_rfl) (by exact fun _ _ _ h=>h) (by rfl) (by rintro w ⟨C1,C2,C3,C4⟩;exact zb (by kernel_rfl) (by rfl) C2) HSb.out ?_;simp only [Nat.reduceAdd,qn];refine WT.take 5 (v:=.pointer (some ⟨b,0,none⟩)) (by simp only [qi];rfl) (by kernel_rfl) (by exact fun _ _ _ h=>h) (by rfl) (by rintro w ⟨C1,C2,C3,C4⟩;exact zb (by kernel_rfl) (by rfl) C3) HSb.out ?_;simp only [Nat.reduceAdd,qn];refine WT.stop (by kernel_rfl) ?_;have M2d:SMap w2.drew m1 (vals (fdel D.files s)):=M2;refine WP.onlySkipE 6 (by simp only [qi];rfl) (by kernel_rfl) (by rfl) (z2s (v:=.pointer (some ⟨b,0,none⟩)) M2d smT (by rfl) (by rfl) (by rfl) HT0.out) ?_;rintro w2' ⟨M2',k2'⟩;rw [sput_vals'] at M2';simp only [Nat.reduceAdd,qn];refine WP.done (by kernel_rfl) ?_;have k22:Keeps (·=m1) w w2':=k12.trans ((Keeps.refl (·=m1) w2).drew.trans k2' (fun _ _ e=>e)) (fun _ _ e=>e);have d2':=k22.at h3 hdm1;have f1':=k22.at h1 hA1;have f2':=k22.at h2 hA2;have f4':=k22.at h2c hA4;clear HSb M2d k2' f1 f2 f3 f4 d2 k12 M2
 have rw2:RowS w2' F R 106 4 sv D.steps.length (D.steps.flatMap stp):=h7.keeps k22 (fun k _ ht e=>by
  subst e;obtain ⟨es,cl,q,-⟩:=h4;exact ht.map q rfl)
 have H1:=qq h1;have H2:=qq h2;have H3:=qq h3;clear M1d k2 h1 h2 h3 h2b h2c;go_wp2;have HS:Hid ((fun u:World=>u.cell? ⟨a1,0,none⟩=some (.pointer (some ⟨d,0,none⟩)) /\ u.cell? ⟨a2,0,none⟩=some (.string s) /\ u.cell? ⟨a4,0,none⟩=some (.string t) /\ u.cell? ⟨d,2,none⟩=some sv) w2'.drew):=⟨cell_of_block f1',cell_of_block f2',cell_of_block f4',cell_of_block d2'⟩
 refine WT.region (fun u:World=>u.cell? ⟨a1,0,none⟩=some (.pointer (some ⟨d,0,none⟩)) /\ u.cell? ⟨a2,0,none⟩=some (.string s) /\ u.cell? ⟨a4,0,none⟩=some (.string t) /\ u.cell? ⟨d,2,none⟩=some sv) 10 13 [0,1,2,3,4,5,6,7,8,9,10,11,12] (by kernel_rfl) rfl ?_;refine WT.t 0 (v:=.pointer (some ⟨d,0,none⟩)) (y:=by rintro w ⟨C1,C2,C4,C3⟩;exact zb (by kernel_rfl) (by rfl) C1) (s:=HS.out) (h:=?_);refine WT.t 1 (v:=.pointer (some ⟨d,0,none⟩)) (y:=by rintro w ⟨C1,C2,C4,C3⟩;exact zb (by kernel_rfl) (by rfl) C1) (s:=HS.out) (h:=?_);refine WT.t 2 (v:=_) (y:=by rintro w ⟨C1,C2,C4,C3⟩;go_simp;with_reducible rfl) (s:=HS.out) (h:=?_);refine WT.t 3 (v:=_) (y:=by rintro w ⟨C1,C2,C4,C3⟩;go_simp;with_reducible rfl) (s:=HS.out) (h:=?_);refine WT.t 4 (v:=sv) (y:=by rintro w ⟨C1,C2,C4,C3⟩;exact zb (by kernel_rfl) (by rfl) C3) (s:=HS.out) (h:=?_);refine WT.t 5 (v:=.string s) (y:=by rintro w ⟨C1,C2,C4,C3⟩;exact zb (by kernel_rfl) (by rfl) C2) (s:=HS.out) (h:=?_);refine WT.t 6 (v:=.string t) (y:=by rintro w ⟨C1,C2,C4,C3⟩;exact zb (by kernel_rfl) (by rfl) C4) (s:=HS.out) (h:=?_);refine WT.t 7 (v:=.agg #[.int .i64 1,.string s,.string t,.pointer none]) (y:=by rintro w ⟨C1,C2,C4,C3⟩;exact zfk (by rfl) (by rfl) (by rfl) (hb72 _ _ _)) (s:=HS.out) (h:=?_);refine WT.o 8 (y:=z0y (v:=.agg #[.int .i64 1,.string s,.string t,.pointer none]) el57 (by rfl) (by rfl) (by omega)) (h:=?_);rintro _ w3 ⟨g,rfl,ng⟩;have k23:Keeps Nb w2' w3:=(Keeps.refl Nb w2').drew.trans_nb ng.k;have HS3:Hid ((fun u:World=>u.cell? ⟨a1,0,none⟩=some (.pointer (some ⟨d,0,none⟩)) /\ u.cell? ⟨a2,0,none⟩=some (.string s) /\ u.cell? ⟨a4,0,none⟩=some (.string t) /\ u.cell? ⟨d,2,none⟩=some sv) w3):=⟨cell_of_block (k23.nb f1'),cell_of_block (k23.nb f2'),cell_of_block (k23.nb f4'),cell_of_block (k23.nb d2')⟩
 refine ⟨HS3.out,?_⟩;simp only [Nat.reduceAdd,qn];have hns:=g3.ns;refine WT.o 9 (y:=z1w (news:=stp ⟨1,s,t,none⟩) el57 (rw2.keeps k23 (fun _ _ _=>n)) (by rfl) (by rfl) (zt ng.blk) (by rfl) (by simp [stp,ptr,Value.oneCell']) (by omega) (by unfold maxLen;omega) (by omega)) (h:=?_);rintro sv' w4 ⟨r4,S4,k34,hS4⟩;have d4:=k34.at (k23.nb d2') (fun e=>(hS4 _ e).2.ne ⟨_,_,k23.nb d2'⟩ (by decide) rfl)
 have HS4:Hid ((fun u:World=>u.cell? ⟨a1,0,none⟩=some (.pointer (some ⟨d,0,none⟩)) /\ u.cell? ⟨a2,0,none⟩=some (.string s) /\ u.cell? ⟨a4,0,none⟩=some (.string t) /\ u.cell? ⟨d,2,none⟩=some sv) w4):=⟨cell_of_block (k34.at (k23.nb f1') (fun e=>hF1 (hS4 _ e).1)),cell_of_block (k34.at (k23.nb f2') (fun e=>hF2 (hS4 _ e).1)),cell_of_block (k34.at (k23.nb f4') (fun e=>hF4 (hS4 _ e).1)),cell_of_block d4⟩
 refine ⟨HS4.out,?_⟩;simp only [Nat.reduceAdd,qn];refine WT.stop (by kernel_rfl) ?_;refine WP.o 10 (v:=_) (y:=by go_simp;first | with_reducible rfl | exact ⟨rfl,rfl⟩) (h:=?_);refine WP.o 11 (v:=_) (y:=by go_simp;first | with_reducible rfl | exact ⟨rfl,rfl⟩) (h:=?_);have o4:sv'.cells=#[sv'] /\ sv'.oneCell'=true:=by obtain ⟨-,-,a,c,rfl,-⟩:=r4;exact ⟨rfl,rfl⟩
 refine WP.onlySkipE 12 (by simp only [qi];rfl) (by kernel_rfl) (by rfl) (zd (v:=sv') (n:=1) (by kernel_rfl) (by rfl) (by rfl) d4 (by rw [o4.1];rfl) (by simp [dcs]) (by rw [o4.1];simpa using o4.2)) ?_;intro w5 s5;rw [o4.1] at s5;simp only [Nat.reduceAdd,qn];refine WP.done (by kernel_rfl) ?_;go_wp2;go_end0;refine ⟨⟨_,rfl⟩,H.out.step H3.out k22 M2' k23 k34 hS4 r4 s5.k s5.blk rfl ?_ (.inr (.inl ⟨rfl,g3b.files _ (zn HFL.out),HMT.out,rfl⟩)) ?_ ?_ hst⟩
 ·exact Nat.le_trans (z73 HFL.out t) g3.nf
 ·exact fun p hp=>zd7 g3b.files HMT.out p hp
 ·exact fun p hp=>zeq HFL.out p hp
theorem ren_at (d:Nat) (s t:ByteArray) (D:Dk) (F R:Nat -> Prop) (fc:Nat -> Fl) (w:World) (h:DiskAt w d F R D fc) (hs:s.size <= maxLen) (ht:t.size <= maxLen) (hc:D.changes < 1000000) :
  Calls Tryz.prog 118 #[.pointer (some ⟨d,0,none⟩),.string s,.string t] w fun e w'=>∃ (er:Int) (D':Dk),e=.returned (.int .i64 er) /\ Now w w' d F R D' fc /\ RenR D s t er D':=by
 have H:=qq h;have HS:=qq hs;have HT:=qq ht;have HC:=qq hc;obtain ⟨⟨m1,m2,sv,h3,h4,h5,h6,h7,h8,h9⟩,g1,g2,g3,g3b,g4,g5,g6⟩:=h;have H3:=qq h3;have G5:=qq g5;have H4:=qq h4;clear hs ht hc g2 g3 g3b g4 h5 h6 h7 h3 h4 h8 h9 g1 g5 g6;go_enter Tryz.func118,Tryz.ntmps118;go_wp2_with (first | go_skip | (with_reducible refine zm (t:=37) ?_) | (with_reducible refine zm (t:=9) ?_))
 refine za (vbox1 (v:=.pointer (some ⟨d,0,none⟩)) (by rfl) (by rfl) ?_);intro a1 w1 n1;simp only [Nat.reduceAdd,qn];go_wp2_with (first | go_skip | (with_reducible refine zm (t:=37) ?_) | (with_reducible refine zm (t:=9) ?_))
 refine za (vbox1 (v:=.string s) (by rfl) (by rfl) ?_);intro a2 w2 n2;simp only [Nat.reduceAdd,qn];go_wp2_with (first | go_skip | (with_reducible refine zm (t:=37) ?_) | (with_reducible refine zm (t:=9) ?_))
 refine za (vbox1 (v:=.string t) (by rfl) (by rfl) ?_);intro a4 w3 n3;simp only [Nat.reduceAdd,qn];have k3:Keeps Nb w w3:=(n1.k.trans_nb n2.k).trans_nb n3.k;have B1:=qq (n3.k.nb (n2.k.nb n1.blk));have B2:=qq (n3.k.nb n2.blk);have B4:=qq n3.blk;have XF1:Hid (¬ F a1):=fun e=>by have:=G5.out _ e;have:=n1.ge;omega
 have XF2:Hid (¬ F a2):=fun e=>by have:=G5.out _ e;have:=n2.ge;have:=n1.k.size;omega
 have XF4:Hid (¬ F a4):=fun e=>by have:=G5.out _ e;have:=n3.ge;have:=n1.k.size;have:=n2.k.size;omega
 have c1:w3.cell? ⟨a1,0,none⟩=some (.pointer (some ⟨d,0,none⟩)):=cell_of_block B1.out;have c2:w3.cell? ⟨a2,0,none⟩=some (.string s):=cell_of_block B2.out;have FA:=qq (z1m d m1 m2 sv D w3 (k3.nb H3.out) (H4.out.nb k3) s HS.out);clear n1 n2 n3;go_wp2_with fail;refine FA.out.mono ?_;rintro _ w4 ⟨rfl,k34⟩;obtain ⟨r,er,hr⟩:∃ r er,found D s=(r,er):=⟨_,_,rfl⟩
 have HR:=qq hr;rw [hr];clear hr FA;simp only;go_wp2_with (first | go_skip | (with_reducible refine z2q (t:=104) ?_))
 refine za (valloc (z:=.pointer none) zero63i ?_);intro a3 w5 n5;simp only [Nat.reduceAdd,qn];have c5:=n5.blk;go_wp2_with (first | go_skip | (with_reducible refine zf (t:=104) ?_))
 refine za (zc rfl (zd (v:=ptr r) (n:=1) (by kernel_rfl) (by rfl) (by rfl) c5 (by cases r <;> rfl) (by simp [Value.cells]) (by cases r <;> simp [ptr,Value.cells,Value.oneCell'])) ?_);intro w6 s6;simp only [Nat.reduceAdd,qn];have k36:Keeps Nb w3 w6:=(k34.trans_nb n5.k).own (Nat.le_trans k34.size n5.ge) s6.k;have k6:Keeps Nb w w6:=k3.trans_nb k36;have XF3:Hid (¬ F a3):=fun e=>by have:=G5.out _ e;have:=n5.ge;have:=k34.size;have:=k3.size;omega
 have B3:Hid (w6.heap[a3]?=some (.cells #[ptr r] 104 (0,0))):=by
  have:=s6.blk;cases r <;> exact this
 have B16:=qq (k36.nb B1.out);have B26:=qq (k36.nb B2.out);have B46:=qq (k36.nb B4.out);have c16:w6.cell? ⟨a1,0,none⟩=some (.pointer (some ⟨d,0,none⟩)):=cell_of_block B16.out;have c46:w6.cell? ⟨a4,0,none⟩=some (.string t):=cell_of_block B46.out;clear n5 c5 s6 c1 c2 k34 k36 B1 B2 B4;have her:er=2 \/ er=6 \/ er=0:=by
  rcases z04 D s with ⟨q1,q2⟩ | ⟨q1,q2,q3⟩ | ⟨b,q1,q2,q3⟩
  ·have:=q2.symm.trans HR.out;simp at this;omega
  ·have:=q3.symm.trans HR.out;simp at this;omega
  ·have:=q3.symm.trans HR.out;simp at this;omega
 have her1:¬ er=1:=by omega
 have NA:=qq (z56 t HT.out w6);go_wp2_with fail;refine NA.out.mono ?_;rintro _ w7 ⟨rfl,k67⟩;have k7:Keeps Nb w w7:=k6.trans_nb k67;have c17:w7.cell? ⟨a1,0,none⟩=some (.pointer (some ⟨d,0,none⟩)):=cell_of_block (k67.nb B16.out);cases hmt:mnB t
 ·go_wp2;go_ret;exact ⟨_,_,rfl,Now.same H.out k7,.inl ⟨hmt,rfl,rfl⟩⟩
 have MT:=qq hmt;have B37:=qq (k67.nb B3.out);have B17:=qq (k67.nb B16.out);have B27:=qq (k67.nb B26.out);have B47:=qq (k67.nb B46.out);clear hmt NA c16 c46 B3 B16 B26 B46 her her1;rcases z04 D s with ⟨q1,q2⟩ | ⟨q1,q2,q3⟩ | ⟨b,q1,q2,q3⟩
 ·
  obtain ⟨rfl,rfl⟩:none=r /\ (2:Int)=er:=by have:=q2.symm.trans HR.out;simpa using this
  clear q2;go_wp2;go_ret;exact ⟨_,_,rfl,Now.same H.out k7,.inr (.inl ⟨MT.out,q1,rfl,rfl⟩)⟩
 ·
  obtain ⟨rfl,rfl⟩:none=r /\ (6:Int)=er:=by have:=q3.symm.trans HR.out;simpa using this
  clear q3;go_wp2;go_ret;exact ⟨_,_,rfl,Now.same H.out k7,.inr (.inr (.inl ⟨MT.out,q1,q2,rfl,rfl⟩))⟩
 ·
  obtain ⟨rfl,rfl⟩:some b=r /\ (0:Int)=er:=by have:=q3.symm.trans HR.out;simpa using this
  have Q1:=qq q1;have Q2:=qq q2;clear q1 q2 q3;cases hdd:D.dead
  ·
   have HW:Hid (Ways w7 d m1 m2 sv (chg D).1 (chg D).2.1 150 89 89 #[.pointer (some ⟨a1,0,none⟩),.pointer (some ⟨a2,0,none⟩),.pointer (some ⟨a3,0,none⟩),.pointer (some ⟨a4,0,none⟩)] #[] #[] fun w'=>Now w w' d F R (if (chg D).2.1=1 then (chg D).1.ren s t b else (chg D).1) fc):=by
    intro w8 hb4 hk4;have D4:=(H.out.nb k7).chg (k7.nb H3.out) hb4 hk4 HC.out;have kw4:Keeps F w w8:=((Keeps.refl F w).trans_nb k7).trans hk4 (fun i _ e=>e ▸ H.out.fd);have nd1:¬ a1=d:=fun e=>XF1.out (e ▸ H.out.fd);have nd2:¬ a2=d:=fun e=>XF2.out (e ▸ H.out.fd);have nd3:¬ a3=d:=fun e=>XF3.out (e ▸ H.out.fd);have nd4:¬ a4=d:=fun e=>XF4.out (e ▸ H.out.fd);have hn:=z03 D;have hno:(chg D).2.1 ≠ 1 -> Now w w8 d F R (if (chg D).2.1=1 then (chg D).1.ren s t b else (chg D).1) fc:=fun e=>by rw [if_neg e];exact Now.of D4 kw4
    refine ⟨fun e=>hno (by omega),fun e=>?_,fun e=>?_,fun e=>?_⟩
    ·refine (zgw d a1 a2 a3 a4 b s t (chg D).1 F R fc w8 D4 (hk4.at B17.out nd1) (hk4.at B27.out nd2) (hk4.at B37.out nd3) (hk4.at B47.out nd4) XF1.out XF2.out XF3.out XF4.out HS.out HT.out MT.out (by rw [hn.1];exact Q2.out) (by rw [hn.2.2.1,hn.2.2.2.1];have:=H.out.nums.ns;omega)).mono ?_;rintro e5 w5 ⟨hv,hN⟩;rw [if_pos e];exact ⟨hv,hN.from kw4⟩
    ·exact z07 (hno (by omega))
    ·exact z07 (hno (by omega))
   have hnu:=H.out.nums;have CA:=qq (z1a d m1 m2 sv D w7 (k7.nb H3.out) hdd ⟨hnu.ch.1,hnu.ch.2⟩ hnu.fu hnu.fn hnu.fe 150 89 89 #[.pointer (some ⟨a1,0,none⟩),.pointer (some ⟨a2,0,none⟩),.pointer (some ⟨a3,0,none⟩),.pointer (some ⟨a4,0,none⟩)] #[] #[] (fun _ _=>rfl) (fun _ _=>rfl) (fun _ _=>rfl) _ HW.out);have HD:=qq hdd;clear HW hdd hnu;go_wp2_with fail;refine CA.out.mono ?_;rintro _ w9 ⟨rfl,hN⟩;go_wp2;go_ret;exact ⟨_,_,rfl,hN,.inr (.inr (.inr ⟨b,MT.out,Q1.out,Q2.out,.inr ⟨HD.out,rfl,rfl⟩⟩))⟩
  ·have CA:=qq (z0t d m1 m2 sv D w7 (k7.nb H3.out) hdd (.func (.func 150) #[] #[.pointer (some ⟨a1,0,none⟩),.pointer (some ⟨a2,0,none⟩),.pointer (some ⟨a3,0,none⟩),.pointer (some ⟨a4,0,none⟩)]) (.func (.func 89) #[] #[]) (.func (.func 89) #[] #[]));have HD:=qq hdd;clear hdd;go_wp2_with fail;refine CA.out.mono ?_;rintro _ w9 ⟨rfl,rfl⟩;go_wp2;go_ret;exact ⟨_,_,rfl,Now.same H.out k7,.inr (.inr (.inr ⟨b,MT.out,Q1.out,Q2.out,.inl ⟨HD.out,rfl,rfl⟩⟩))⟩
end Go.Proofs.YtpjomdmjohjheaaGreatDoor
end
section
namespace Go.Proofs.YtpjomdmjohjheaaGreatDoor
open Go.RowKit Go.Lk Go.Vfs
def lastsOf (D:Dk) (fc:Nat -> Fl) (s:ByteArray):Int × Int:=match (found D s).1 with | none=>(0,(found D s).2) | some b=>((fc b).lasts,(found D s).2)
theorem ze9 (d:Nat) (s:ByteArray) (D:Dk) (F R:Nat -> Prop) (fc:Nat -> Fl) (w:World) (h:DiskAt w d F R D fc) (hs:s.size <= maxLen) :
  Calls Tryz.prog 108 #[.pointer (some ⟨d,0,none⟩),.string s] w fun e w'=>e=.returned (.tuple #[.int .i64 (lastsOf D fc s).1,.int .i64 (lastsOf D fc s).2]) /\ Keeps Nb w w':=by
 have H:=qq h;have HS:=qq hs;obtain ⟨⟨m1,m2,sv,h3,h4,h5,h6,h7,h8,h9⟩,g1,g2,g3,g3b,g4,g5,g6⟩:=h;have FA:=qq (z1m d m1 m2 sv D w h3 h4 s HS.out);clear hs g2 g3 g3b g4 h5 h6 h7 h3 h4 h8 h9 g1 g5 g6;go_enter Tryz.func108,Tryz.ntmps108;go_wp2_with fail;refine FA.out.mono ?_;rintro _ w1 ⟨rfl,k1⟩;rcases z04 D s with ⟨q1,q2⟩ | ⟨q1,q2,q3⟩ | ⟨b,q1,q2,q3⟩
 ·
  have L:Hid (lastsOf D fc s=(0,2)):=by unfold lastsOf;rw [q2];rfl
  rw [q2];clear q2 FA;go_wp2;go_ret2;exact ⟨by rw [L.out];rfl,k1⟩
 ·
  have L:Hid (lastsOf D fc s=(0,6)):=by unfold lastsOf;rw [q3];rfl
  rw [q3];clear q3 FA;go_wp2;go_ret2;exact ⟨by rw [L.out];rfl,k1⟩
 ·
  have L:Hid (lastsOf D fc s=((((fc b).lasts:Nat):Int),0)):=by unfold lastsOf;rw [q3];rfl
  rw [q3];obtain ⟨⟨v,z1,-⟩,-⟩:=H.out.file b (z1f q2);have c1:w1.cell? ⟨b,1,none⟩=some (.int .i64 ((fc b).lasts:Nat)):=(cell_of_block (k1.nb z1)).trans rfl;clear q3 FA z1;simp only [ptr];go_wp2;go_ret2;exact ⟨by rw [L.out];rfl,k1⟩
end Go.Proofs.YtpjomdmjohjheaaGreatDoor
end
section
namespace Go.Proofs.YtpjomdmjohjheaaGreatDoor
open Go.RowKit Go.Lk Go.Vfs
def layD (D:Dk) (n e:Int):Dk:={ D with fn:=n,fe:=e }
theorem lay_ok (d:Nat) (n e:Int) (D:Dk) (F R:Nat -> Prop) (fc:Nat -> Fl) (w:World) (h:DiskAt w d F R D fc) (hn:0 <= n /\ n <= 9223372036854775807) (he:e=5 \/ e=9) :
  Calls Tryz.prog 36 #[.pointer (some ⟨d,0,none⟩),.int .i64 n,.int .i64 e] w fun r w'=>r=.returned (.int .i64 0) /\ DiskAt w' d F R (layD D n e) fc /\ Keeps (·=d) w w':=by
 have H:=qq h;obtain ⟨⟨m1,m2,sv,h3,-⟩,-⟩:=h;obtain ⟨c0,-⟩:=cells9 h3;have d0:=c0 ⟨w,Keeps.refl _ _⟩;have H3:=qq h3;have TH:=qq (z1z d m1 (.map none) (.map none) [] w d0);have hb59:∀ (W:World) (n e:Int),(Instr.build 74 #[(0,.int .i64 n),(1,.int .i64 e)]).run Tryz.prog W=.ok (.agg #[.int .i64 n,.int .i64 e]) W:=fun _ _ _=>by kernel_rfl
 have HF:Hid (Nums (layD D n e)):=by
  obtain ⟨z1,z2,z3,z4,z5,z6,z7,z8⟩:=H.out.nums;exact ⟨z1,z2,z3,by simp only [layD];omega,by simp only [layD];omega,z6,z7,z8⟩
 have hn0:¬ n < 0:=by omega
 clear h3 c0 hn;rcases he with rfl | rfl
 all_goals
  go_enter Tryz.func36,Tryz.ntmps36
  go_wp2_with fail;refine TH.out.mono ?_;rintro e w' ⟨rfl,rfl⟩;go_wp2_with (first | go_skip | (with_reducible refine zf (t:=74) ?_))
  first
   | refine za (zc rfl (zd (v:=.agg #[.int .i64 n,.int .i64 5]) (n:=2) (by kernel_rfl) (by rfl) (by rfl) H3.out (by rfl) (by simp [dcs,Value.cells]) (by simp [Value.cells,Value.oneCell'])) ?_)
   | refine za (zc rfl (zd (v:=.agg #[.int .i64 n,.int .i64 9]) (n:=2) (by kernel_rfl) (by rfl) (by rfl) H3.out (by rfl) (by simp [dcs,Value.cells]) (by simp [Value.cells,Value.oneCell'])) ?_)
  intro w1 s1;simp only [Nat.reduceAdd,qn];go_wp2;go_ret;exact ⟨rfl,H.out.renum H3.out s1.blk s1.k rfl rfl rfl HF.out,s1.k⟩
end Go.Proofs.YtpjomdmjohjheaaGreatDoor
end
section
namespace Go.Vfs
open Go.Lk Go.RowKit
variable {w w':World}
def unv (p:ByteArray × Value):ByteArray × Nat:=(p.1,match p.2 with | .pointer (some a)=>a.block | _=>0)
theorem z97 (l:List (ByteArray × Nat)):(vals l).map unv=l:=by
 unfold vals;rw [List.map_map];exact List.map_id' _ |>.symm ▸ List.map_congr_left fun p _=>rfl
theorem z4l {a b:List (ByteArray × Nat)} (h:(vals a).Perm (vals b)):a.Perm b:=by
 have:=h.map unv
 rwa [z97,z97] at this
theorem z3x {l:List (ByteArray × Nat)} {p:ByteArray × Value} (h:p ∈ vals l):∃ q ∈ l,p=(q.1,.pointer (some ⟨q.2,0,none⟩)):=by
 obtain ⟨q,hq,rfl⟩:=List.mem_map.1 h;exact ⟨q,hq,rfl⟩
theorem z0d (l:List (ByteArray × Nat)):(vals l).length=l.length:=by simp [vals]
theorem z4w (l:List (ByteArray × Nat)) (q:ByteArray × Nat):vals l ++ [(q.1,.pointer (some ⟨q.2,0,none⟩))]=vals (l ++ [q]):=by simp [vals]
theorem z9i {base m:Nat} {a:Option Addr} {cp n:Nat} {l:List Nat} (h:w.ownsRow base 5 1 (.slice a n cp) m (l.map fun x=>.int .u8 (x:Nat))):ReadsN .u8 w a l:=by
 obtain ⟨a',c',e,-,-,hh,-⟩:=z05 h;cases e;rcases hh with h0 | ⟨b,off,ha,hc⟩
 ·exact .inl (by simpa using h0)
 ·refine .inr ⟨b,off,ha,fun i hi=>hc i _ ?_⟩;rw [List.getElem?_map,List.getElem?_eq_getElem hi,z15 hi];rfl
theorem z1o {base:Nat} {v:Value} {l:List Nat} (h:w.ownsRow base 5 1 v l.length (l.map fun x=>.int .u8 (x:Nat))) (hl:∀ z ∈ l,z < 256):Bytes w (fun k=>base <= k /\ k < w.heap.size) v l:=by
 obtain ⟨a,c,rfl,h1,h2,h3,h4⟩:=z05 h;exact ⟨a,c,rfl,h1,h2,z9i h,hl,fun b off e _=>⟨(h4 b off e).2.2.1,(h4 b off e).2.1⟩⟩
def tot (l:List (ByteArray × Nat)) (fc:Nat -> Fl):Nat:=(l.map fun p=>(fc p.2).b.length).sum
theorem z96 {a b:List (ByteArray × Nat)} (h:a.Perm b) (fc:Nat -> Fl):tot a fc=tot b fc:=by
 unfold tot
 induction h with
 | nil=>rfl
 | cons x _ ih=>simp [ih]
 | swap x y l=>simp;omega
 | trans _ _ i1 i2=>exact i1.trans i2
theorem zf7 (l:List (ByteArray × Nat)) (q:ByteArray × Nat) (fc:Nat -> Fl):tot (l ++ [q]) fc=tot l fc + (fc q.2).b.length:=by simp [tot]
theorem tot_le' (l:List (ByteArray × Nat)) (fc:Nat -> Fl) (n:Nat) (h:∀ p ∈ l,(fc p.2).b.length <= n):tot l fc <= n * l.length:=by
 induction l with
 | nil=>simp [tot]
 | cons p l ih =>
  have h1:=h p (by simp);have h2:=ih (fun q hq=>h q (by simp [hq]));unfold tot at h2 ⊢;rw [List.map_cons,List.sum_cons,List.length_cons,Nat.mul_add];omega
theorem tot_le {m r:Nat} {us l:List (ByteArray × Nat)} {fc:Nat -> Fl} {R:Nat -> Prop} {w0:World} (h:SRng w m r (vals l) (vals us)) (hf:∀ p ∈ l,FileAt w0 R p.2 (fc p.2)):tot us fc <= 16777216 * l.length:=by
 have hm:=h;obtain ⟨es,clock,since,seen,c0,-,-,-,-,-,-,-,-,hnd,hsub,-⟩:=hm;have hs:∀ p ∈ us,p ∈ l:=fun p hp=>by
  obtain ⟨q,hq,e⟩:=z3x (hsub _ (List.mem_map.2 ⟨p,hp,rfl⟩));simp only [Prod.mk.injEq,Value.pointer.injEq,Option.some.injEq,Addr.mk.injEq,and_true] at e;have:p=q:=Prod.ext e.1 e.2;exact this ▸ hq
 have h1:=tot_le' us fc 16777216 (fun p hp=>by obtain ⟨v,-,-,-,h⟩:=hf p (hs p hp);exact h);have hn:us.Nodup:=List.Pairwise.of_map (fun p:ByteArray × Nat=>(p.1,Value.pointer (some ⟨p.2,0,none⟩))) (fun a b hab e=>hab (by rw [e])) hnd;have h2:=List.Nodup.length_le_of_subset hn hs;have:16777216 * us.length <= 16777216 * l.length:=Nat.mul_le_mul_left _ h2;omega
end Go.Vfs
namespace Go.Proofs.YtpjomdmjohjheaaGreatDoor
open Go.RowKit Go.Lk Go.Vfs
theorem el31:ElemT Tryz.prog 22 5 1 1 (.int .u8 0):=⟨Tryz.underlying22,by kernel_rfl,rfl,by decide⟩
def Cloned (w:World) (e size:Nat) (n:Nat) (xs:List Value) (en:Ending) (w':World):Prop:=∃ v,en=.returned v /\ w'.ownsRow w.heap.size e size v n xs /\ Keeps Nb w w'
theorem z4a (a:Option Addr) (n c:Nat) (xs:List Value) (w:World) (hx:Has w a xs /\ xs.length=n * 1 /\ ∀ u ∈ xs,u.oneCell'=true) (hc:n <= c /\ c <= maxLen) (hn:n <= 100000000) :
  Calls Tryz.prog 68 #[.slice a n c] w (Cloned w 5 1 n xs):=by
 have EL:=el31;have q:∀ (w:World) (a:Option Addr) (n c:Nat),(binOp .eql 22 (.slice a n c) (.slice none 0 0)).run Tryz.prog w=.ok (.bool a.isNone) w:=fun w a n c=>Lib.run_eql_slice_nil w _ _ a n c 0 0 Tryz.underlying22;obtain ⟨hh,hl,h1⟩:=hx;rcases a with _ | ⟨b,off,sp⟩
 ·
  have hxs:xs=[]:=by rcases hh with h | ⟨_,_,h,_⟩;exact h;cases h
  subst hxs;have hn:n=0:=by simp at hl;omega
  subst hn;go_enter Tryz.func68,Tryz.ntmps68;go_wp2;go_ret;exact ⟨_,rfl,World.ownsRow_nil _ _ _ _,Keeps.refl _ _⟩
 ·
  go_enter Tryz.func68,Tryz.ntmps68;go_wp2_with (first | go_skip | (with_reducible refine zo ?_) | (with_reducible refine z94 ?_))
  refine za (zw rfl (z49 EL [] rfl (by simp) (by simp) (by simp)) ?_);obtain ⟨w1,e1⟩:∃ w1,w.alloc (.cells (([]:List Value).flatMap (·.cells.toList)).toArray 5)=w1:=⟨_,rfl⟩
  have n1:NewAt w w1 w.heap.size (.cells #[] 5):=by rw [<- e1];exact newAt _ _
  rw [e1];generalize hg:w.heap.size=g at *;have HG:=qq hg;clear e1 hg;have hown:w1.ownsRow g 5 1 (.slice (some ⟨g,0,none⟩) 0 0) 0 []:=⟨by simp,.inr ⟨g,0,#[],rfl,Nat.le_refl _,n1.blk,Nat.le_refl _,Nat.zero_le _,by simp,by simp⟩⟩
  simp only [Nat.reduceAdd,qn];go_wp2_with (first | go_skip | (with_reducible refine zo ?_) | (with_reducible refine z94 ?_))
  obtain ⟨v',w2,hr,ho,hg2,hb⟩:=z2l (c:=c) 31 EL g 0 [] xs hown (hh.nb n1.k) hl h1 (by unfold maxLen at hc ⊢;omega) (by omega) (Nat.le_of_lt n1.lt);refine za (zw rfl (z4s rfl rfl hr) ?_);simp only [Nat.reduceAdd,qn];go_wp2;go_ret;rw [Nat.zero_add,List.nil_append] at ho;refine ⟨v',rfl,HG.out ▸ ho,n1.k.grown hg2 (fun k h hk=>?_)⟩;cases h;exact absurd hk (by have:=HG.out;show ¬ (g < _);omega)
theorem z2u (v:Value) (l:List Nat) (R:Nat -> Prop) (w:World) (h:Bytes w R v l) (hl:l.length <= 100000000) :
  Calls Tryz.prog 68 #[v] w fun e w'=>∃ v',e=.returned v' /\ w'.ownsRow w.heap.size 5 1 v' l.length (l.map fun x=>.int .u8 (x:Nat)) /\ Keeps Nb w w':=by
 obtain ⟨a,c,rfl,h1,h2,h3,-⟩:=h;exact z4a a l.length c (l.map fun x=>.int .u8 (x:Nat)) w ⟨h3.has,by simp,z1u⟩ ⟨h1,h2⟩ hl
def readOf (D:Dk) (fc:Nat -> Fl) (s:ByteArray):List Nat × Int:=match (found D s).1 with | none=>([],(found D s).2) | some b=>((fc b).b,(found D s).2)
theorem z3o (d:Nat) (s:ByteArray) (D:Dk) (F R:Nat -> Prop) (fc:Nat -> Fl) (w:World) (h:DiskAt w d F R D fc) (hs:s.size <= maxLen) :
  Calls Tryz.prog 49 #[.pointer (some ⟨d,0,none⟩),.string s] w fun e w'=>∃ v,e=.returned (.tuple #[v,.int .i64 (readOf D fc s).2]) /\ w'.ownsRow w.heap.size 5 1 v (readOf D fc s).1.length ((readOf D fc s).1.map fun x=>.int .u8 (x:Nat)) /\ Keeps Nb w w':=by
 have H:=qq h;have HS:=qq hs;obtain ⟨⟨m1,m2,sv,h3,h4,h5,h6,h7,h8,h9⟩,g1,g2,g3,g3b,g4,g5,g6⟩:=h;have FA:=qq (z1m d m1 m2 sv D w h3 h4 s HS.out);clear hs g2 g3 g3b g4 h5 h6 h7 h3 h4 h8 h9 g1 g5 g6;go_enter Tryz.func49,Tryz.ntmps49;go_wp2_with fail;refine FA.out.mono ?_;rintro _ w1 ⟨rfl,k1⟩;rcases z04 D s with ⟨q1,q2⟩ | ⟨q1,q2,q3⟩ | ⟨b,q1,q2,q3⟩
 ·
  have L:Hid (readOf D fc s=([],2)):=by unfold readOf;rw [q2];rfl
  rw [q2];clear q2 FA;go_wp2;go_ret2;exact ⟨_,by rw [L.out];rfl,by rw [L.out];exact World.ownsRow_nil _ _ _ _,k1⟩
 ·
  have L:Hid (readOf D fc s=([],6)):=by unfold readOf;rw [q3];rfl
  rw [q3];clear q3 FA;go_wp2;go_ret2;exact ⟨_,by rw [L.out];rfl,by rw [L.out];exact World.ownsRow_nil _ _ _ _,k1⟩
 ·
  have L:Hid (readOf D fc s=((fc b).b,0)):=by unfold readOf;rw [q3];rfl
  rw [q3];obtain ⟨⟨v,z1,z2,z3,z4⟩,-⟩:=H.out.file b (z1f q2);have c1:w1.cell? ⟨b,0,none⟩=some v:=(cell_of_block (k1.nb z1)).trans rfl;have CA:=qq (z2u v (fc b).b R w1 (z2.keeps k1 (fun _ _ e=>e)) (by omega));have Z2:=qq z2;obtain ⟨va,vc,hv,-⟩:=z2;subst hv;clear q3 FA z1 z3 z4;simp only [ptr];go_wp2_with fail;refine CA.out.mono ?_;rintro _ w2 ⟨v',rfl,ho,k2⟩;have HO:=qq ho;clear ho CA;go_wp2;go_ret2;exact ⟨v',by rw [L.out];rfl,by rw [L.out];exact z3b HO.out k1.size,k1.trans_nb k2⟩
theorem zh0 (d:Nat) (D:Dk) (F R:Nat -> Prop) (fc:Nat -> Fl) (w:World) (h:DiskAt w d F R D fc) :
  Calls Tryz.prog 90 #[.pointer (some ⟨d,0,none⟩)] w fun e w'=>e=.returned (.int .i64 (D.cap - (tot D.files fc:Nat))) /\ Keeps Nb w w':=by
 have H:=qq h;obtain ⟨⟨m1,m2,sv,h3,h4,h5,h6,h7,h8,h9⟩,g1,g2,g3,g3b,g4,g5,g6⟩:=h;have H4:=qq h4;have H3:=qq h3;obtain ⟨c0,-,-,c3,-⟩:=cells9 h3;have d0:=c0 ⟨w,Keeps.refl _ _⟩;have d3:=c3 ⟨w,Keeps.refl _ _⟩;have TH:=qq (z1z d m1 (.map none) (.map none) [] w d0);have NU:=qq g3;clear c0 c3 g2 g3 g3b g4 h5 h6 h7 h3 h4 h8 h9 g1 g5 g6;go_enter Tryz.func90,Tryz.ntmps90;go_wp2_with fail;refine TH.out.mono ?_;rintro e w' ⟨rfl,rfl⟩;go_wp2_with (first | go_skip | (with_reducible refine z9s ?_))
 refine za (zi rfl (z5o H4.out smT (by rfl)) ?_);rintro _ w1 ⟨r,rfl,hr,hR,k1⟩;simp only [Nat.reduceAdd,qn];have HR:=qq hR;have HRR:=qq hr;have K1:=qq k1;clear hR hr k1 d0 d3;go_wp2
 go_loopw [3] (fun i wr=>∃ us:List (ByteArray × Nat),SRng wr m1 r (vals D.files) (vals us) /\ i=.int .i64 (D.cap - (tot us fc:Nat)) /\ Keeps Nb w wr) (fun _ wr=>leftS wr m1 r (vals D.files))
 case atStart=>exact ⟨[],HR.out,by simp [tot],K1.out⟩
 case round =>
  obtain ⟨us,hs,rfl,kr⟩:=hrel;have HSR:=qq hs;have KR:=qq kr;clear hs kr;go_wp2_with (first | go_skip | (with_reducible refine z4v ?_))
  refine za (zi rfl (z70 HSR.out (by rfl)) ?_);rintro _ w2 (⟨hp,rfl,rfl⟩ | ⟨p,hp,hn,rfl,hs2,k2,hen⟩)
  ·simp only [Nat.reduceAdd,qn];have hto:Hid (tot us fc=tot D.files fc):=z96 (z4l hp) fc;clear hp;go_wp2;go_ret;exact ⟨by rw [hto.out];rfl,KR.out⟩
  ·
   obtain ⟨q,hq,rfl⟩:=z3x hp;have hlt:=HSR.out.lt hp hn;have hl1:=HSR.out.left;have hl2:=hs2.left;rw [z4w] at hs2 hl2;have k2n:Keeps Nb w w2:=KR.out.own HRR.out k2;obtain ⟨v,z1,z2,z3,z4⟩:=(H.out.file q.2 (.inl ⟨q,hq,rfl⟩)).1;obtain ⟨va,vc,rfl,-⟩:=z2;have c1:w2.cell? ⟨q.2,0,none⟩=some (.slice va (fc q.2).b.length vc):=(cell_of_block (k2n.nb z1)).trans rfl;have ht:=zf7 us q fc;have hb1:=tot_le HSR.out (fun p hp=>(H.out.file p.2 (.inl ⟨p,hp,rfl⟩)).1);have hb2:=NU.out.nf;have hb3:=NU.out.cap;have hb4:tot us fc <= 16777216000000:=Nat.le_trans hb1 (by omega);have hen2:=qq hen;have HS2:=qq hs2;have KR2:=qq k2n;have HT:=qq ht;have HLL:Hid (leftS w2 m1 r (vals D.files) < leftS wr m1 r (vals D.files)):=by
    have e1:=z0d us;have e2:=z0d (us ++ [q]);have e3:=z0d D.files;have hla:(us ++ [q]).length=us.length + 1:=by simp
    refine qq ?_;rw [hl1,hl2];omega
   clear hen hs2 hn hp hq k2 k2n z1 z3 ht hb1 hb2 hlt hl1 hl2;generalize hlq:(fc q.2).b.length=lq at *;have HLQ:=qq hlq;clear hlq;simp only [Nat.reduceAdd,qn];go_wp2_with (first | go_skip | (with_reducible refine z43 ?_))
   refine za (zw rfl (z5p (hen2.out _ rfl rfl) (by rfl)) ?_);simp only [Nat.reduceAdd,qn];go_wp2;go_roundw
   case rel=>exact ⟨us ++ [q],HS2.out,by rw [HT.out];go_num,KR2.out⟩
   case measure=>exact HLL.out
end Go.Proofs.YtpjomdmjohjheaaGreatDoor
end
section
namespace Go.Vfs
open Go.Lk Go.RowKit
variable {w w':World} {R R' S F F':Nat -> Prop} {d b:Nat} {x:Fl} {D:Dk} {fc:Nat -> Fl}
theorem Bytes.rows {v:Value} {l:List Nat} (h:Bytes w R v l):∃ a c,v=.slice a l.length c /\ l.length <= c /\ c <= maxLen /\ Has w a (l.map fun x=>.int .u8 (x:Nat)):=by
 obtain ⟨a,c,rfl,h1,h2,h3,-⟩:=h;exact ⟨a,c,rfl,h1,h2,h3.has⟩
theorem ze3 {a:Option Addr} {l:List Nat} (h:Has w a (l.map fun x=>Value.int .u8 (x:Nat))) (n:Nat):Has w a ((l.take n).map fun x=>Value.int .u8 (x:Nat)):=by
 rcases h with h | ⟨b,off,rfl,h⟩
 ·left;rw [List.map_take,h,List.take_nil]
 ·
  refine .inr ⟨b,off,rfl,fun i v hv=>?_⟩;rw [List.map_take,List.getElem?_take] at hv;split at hv
  ·exact h i v hv
  ·cases hv
def AppR (D:Dk) (fc:Nat -> Fl) (s:ByteArray) (bs:List Nat) (e:Int) (D':Dk) (fc':Nat -> Fl):Prop :=
 (mnB s=false /\ e=2 /\ D'=D /\ fc'=fc) \/ (mnB s=true /\ flook D.files s=none /\ e=6 /\ D'=D /\ fc'=fc) \/
 ∃ b,mnB s=true /\ flook D.files s=some b /\ ((D.cap - (tot D.files fc:Nat) < bs.length /\ e=5 /\ D'=D /\ fc'=fc) \/ ((bs.length:Int) <= D.cap - (tot D.files fc:Nat) /\ D.dead=true /\ e=8 /\ D'=D /\ fc'=fc) \/
  ((bs.length:Int) <= D.cap - (tot D.files fc:Nat) /\ D.dead=false /\ e=(chg D).2.2 /\ D'=(chg D).1 /\ fc'=if (chg D).2.1=0 then fc else setf fc b ⟨(fc b).b ++ bs.take (if (chg D).2.1=2 then bs.length / 2 else bs.length),(fc b).lasts⟩))
end Go.Vfs
namespace Go.Proofs.YtpjomdmjohjheaaGreatDoor
open Go.RowKit Go.Lk Go.Vfs
theorem zfo (d b a1 a2 a3 n:Nat) (v2:Value) (bs:List Nat) (D:Dk) (F R Rb:Nat -> Prop) (fc:Nat -> Fl) (w:World) (h:DiskAt w d F R D fc) (hb:Ref D b) (h1:w.heap[a1]?=some (.cells #[.pointer (some ⟨b,0,none⟩)] 104 (0,0)))
  (h2:w.heap[a2]?=some (.cells #[v2] 22 (0,0))) (h3:w.heap[a3]?=some (.cells #[.int .i64 n] 3 (0,0))) (hv:Bytes w Rb v2 bs) (hn:n <= bs.length) (hroom:(fc b).b.length + n <= 16777216) :
  Calls Tryz.prog 92 #[.pointer (some ⟨a1,0,none⟩),.pointer (some ⟨a2,0,none⟩),.pointer (some ⟨a3,0,none⟩)] w fun e w'=>(∃ v,e=.returned v) /\ Now w w' d F R D (setf fc b ⟨(fc b).b ++ bs.take n,(fc b).lasts⟩):=by
 have H:=qq h;have HB:=qq hb;obtain ⟨⟨v,q1,q2,q3,q4⟩,q5⟩:=h.file b hb;have Q2:=qq q2;have HV:=qq hv;obtain ⟨va,vc,rfl,q6,q7,q8⟩:=q2.rows;obtain ⟨ba,bc,rfl,b6,b7,b8⟩:=hv.rows;have QA:=qq (show Has w va ((fc b).b.map fun x=>Value.int .u8 (x:Nat)) from q8);have BA:=qq (ze3 b8 n);have hz:∀ z ∈ (fc b).b,z < 256:=by obtain ⟨_,_,_,_,_,_,h,_⟩:=q2;exact h
 have hz2:∀ z ∈ bs,z < 256:=by obtain ⟨_,_,_,_,_,_,h,_⟩:=hv;exact h
 have HZ:=qq hz;have HZ2:=qq hz2;have QB:=qq q1;have q6b:=qq q6;have HQ3:=qq q3;obtain ⟨m,hm⟩:∃ m,m=(fc b).b.length:=⟨_,rfl⟩
 obtain ⟨k,hk⟩:∃ k,k=bs.length:=⟨_,rfl⟩
 have HM:=qq hm;have HK:=qq hk;rw [<- hm] at q1 hroom q6 q6b q3 q4;rw [<- hk] at hn b6 h2;have H1:=qq h1;have H2:=qq h2;have H3:=qq h3;have H4:=qq q1;have hmx:bc <= 9223372036854775807:=by unfold maxLen at b7;exact b7
 have c1:w.cell? ⟨a1,0,none⟩=some (.pointer (some ⟨b,0,none⟩)):=cell_of_block h1;have c2:w.cell? ⟨a2,0,none⟩=some (.slice ba k bc):=cell_of_block h2;have c3:w.cell? ⟨a3,0,none⟩=some (.int .i64 n):=cell_of_block h3;have c4:w.cell? ⟨b,0,none⟩=some (.slice va m vc):=(cell_of_block q1).trans rfl;clear h hb h1 h2 h3 hv hm hk q1 q2 q3 q5 q6 q8 b8 hz hz2;go_enter Tryz.func92,Tryz.ntmps92;have HS:Hid ((fun u:World=>u.cell? ⟨a1,0,none⟩=some (.pointer (some ⟨b,0,none⟩)) /\ u.cell? ⟨a2,0,none⟩=some (.slice ba k bc) /\ u.cell? ⟨a3,0,none⟩=some (.int .i64 n) /\ u.cell? ⟨b,0,none⟩=some (.slice va m vc)) w.drew):=⟨c1,c2,c3,c4⟩
 refine WT.region (fun u:World=>u.cell? ⟨a1,0,none⟩=some (.pointer (some ⟨b,0,none⟩)) /\ u.cell? ⟨a2,0,none⟩=some (.slice ba k bc) /\ u.cell? ⟨a3,0,none⟩=some (.int .i64 n) /\ u.cell? ⟨b,0,none⟩=some (.slice va m vc)) 10 13 [0,1,2,3,4,6,7,8,5,9,10,11,12] (by kernel_rfl) rfl ?_;refine WT.t 0 (v:=.pointer (some ⟨b,0,none⟩)) (y:=by rintro w ⟨C1,C2⟩;exact zb (by kernel_rfl) (by rfl) C1) (s:=HS.out) (h:=?_);refine WT.t 1 (v:=.pointer (some ⟨b,0,none⟩)) (y:=by rintro w ⟨C1,C2⟩;exact zb (by kernel_rfl) (by rfl) C1) (s:=HS.out) (h:=?_);refine WT.t 2 (v:=_) (y:=by rintro w ⟨C1,C2⟩;go_simp;with_reducible rfl) (s:=HS.out) (h:=?_);refine WT.t 3 (v:=_) (y:=by rintro w ⟨C1,C2⟩;go_simp;with_reducible rfl) (s:=HS.out) (h:=?_);refine WT.t 4 (v:=.slice va m vc) (y:=by rintro w ⟨C1,C2,C3,C4⟩;exact zb (by kernel_rfl) (by rfl) C4) (s:=HS.out) (h:=?_);refine WT.t 6 (v:=.slice ba k bc) (y:=by rintro w ⟨C1,C2,C3,C4⟩;exact zb (by kernel_rfl) (by rfl) C2) (s:=HS.out) (h:=?_);refine WT.t 7 (v:=.int .i64 n) (y:=by rintro w ⟨C1,C2,C3,C4⟩;exact zb (by kernel_rfl) (by rfl) C3) (s:=HS.out) (h:=?_);refine WT.t 8 (v:=.slice ba n bc) (y:=by rintro w ⟨C1,C2,C3,C4⟩;exact by go_simp;exact fun h=>absurd h (by omega)) (s:=HS.out) (h:=?_);refine WT.call 5 (by simp only [qi];rfl) (by kernel_rfl) (by rfl) (by go_simp;first | done | rfl | exact ⟨⟨rfl,rfl⟩,rfl⟩) (z4a va m vc ((fc b).b.map fun x=>Value.int .u8 (x:Nat)) w.drew ⟨QA.out,by rw [List.length_map,<- HM.out];omega,z1u⟩ ⟨q6b.out,q7⟩ (by omega)) ?_;rintro _ w2 ⟨v',rfl,ho,k2⟩;have k02:Keeps Nb w w2:=(Keeps.refl Nb w).drew.trans_nb k2
 have HS2:Hid ((fun u:World=>u.cell? ⟨a1,0,none⟩=some (.pointer (some ⟨b,0,none⟩)) /\ u.cell? ⟨a2,0,none⟩=some (.slice ba k bc) /\ u.cell? ⟨a3,0,none⟩=some (.int .i64 n) /\ u.cell? ⟨b,0,none⟩=some (.slice va m vc)) w2) :=
  ⟨cell_of_block (k02.nb H1.out),cell_of_block (k02.nb H2.out),cell_of_block (k02.nb H3.out),(cell_of_block (k02.nb H4.out)).trans rfl⟩
 refine ⟨_,rfl,HS2.out,?_⟩;simp only [Nat.reduceAdd,qn];refine WT.o 9 (y:=zgs (wx:=w.drew) (n:=m) (m:=n) (news:=(bs.take n).map fun x=>Value.int .u8 (x:Nat)) el31 k2 ho (by rfl) (by rfl) (BA.out.nb k02) (by rw [List.length_map,List.length_take,<- HK.out];omega) z1u (by unfold maxLen;omega) (by omega)) (h:=?_);rintro v3 w3 ⟨ho3,k3⟩;have k03:Keeps Nb w w3:=(Keeps.refl Nb w).drew.trans_nb k3
 have HS3:Hid ((fun u:World=>u.cell? ⟨a1,0,none⟩=some (.pointer (some ⟨b,0,none⟩)) /\ u.cell? ⟨a2,0,none⟩=some (.slice ba k bc) /\ u.cell? ⟨a3,0,none⟩=some (.int .i64 n) /\ u.cell? ⟨b,0,none⟩=some (.slice va m vc)) w3) :=
  ⟨cell_of_block (k03.nb H1.out),cell_of_block (k03.nb H2.out),cell_of_block (k03.nb H3.out),(cell_of_block (k03.nb H4.out)).trans rfl⟩
 refine ⟨HS3.out,?_⟩;simp only [Nat.reduceAdd,qn];refine WT.stop (by kernel_rfl) ?_;refine WP.o 10 (v:=_) (y:=by go_simp;first | with_reducible rfl | exact ⟨rfl,rfl⟩) (h:=?_);refine WP.o 11 (v:=_) (y:=by go_simp;first | with_reducible rfl | exact ⟨rfl,rfl⟩) (h:=?_);have o3:v3.cells=#[v3] /\ v3.oneCell'=true:=by obtain ⟨_,_,rfl,-⟩:=z05 ho3;exact ⟨rfl,rfl⟩
 refine WP.onlySkipE 12 (by simp only [qi];rfl) (by kernel_rfl) (by rfl) (zd (v:=v3) (n:=1) (by kernel_rfl) (by rfl) (by rfl) (k03.nb H4.out) (by rw [o3.1];rfl) (by simp) (by rw [o3.1];simpa using o3.2)) ?_;intro w5 s5;rw [o3.1] at s5;simp only [Nat.reduceAdd,qn];refine WP.done (by kernel_rfl) ?_;go_wp2;go_end0;have kb:Keeps (·=b) w w5:=(Keeps.of_nb k03).trans s5.k (fun _ _ e=>e);have k5:Keeps F w w5:=kb.mono (fun i _ e=>e ▸ (H.out.file b HB.out).2);have hlen:((fc b).b ++ bs.take n).length=m + n:=by rw [List.length_append,List.length_take,<- HM.out,<- HK.out];omega
 have hbl:b < w.heap.size:=H.out.ltF b (H.out.file b HB.out).2;have hz3:=k03.size;have hz5:=s5.k.size;have ho5:w5.ownsRow w.heap.size 5 1 v3 ((fc b).b ++ bs.take n).length (((fc b).b ++ bs.take n).map fun x=>Value.int .u8 (x:Nat)):=by
  rw [hlen,List.map_append];exact z08 ho3 s5.k (fun k hk e=>by have:w.heap.size <= k:=hk;omega)
 have hB5:=z1o ho5 (fun z hz=>by
  rcases List.mem_append.1 hz with h | h
  ·exact HZ.out z h
  ·exact HZ2.out z (List.mem_of_mem_take h))
 refine ⟨⟨_,rfl⟩,F,(fun k=>R k \/ (w.heap.size <= k /\ k < w5.heap.size)),?_,fun k hk=>.inl hk,fun k hk=>hk.imp id fun h=>h.1,k5⟩;refine H.out.set HB.out kb ⟨v3,s5.blk,hB5.mono (fun k h=>.inr h),?_,?_⟩ (fun _ h=>.inl h) (fun _ h=>h)
 ·have:=HQ3.out;simp only [List.length_append];omega
 ·simp only;rw [hlen];omega
end Go.Proofs.YtpjomdmjohjheaaGreatDoor
end
section
namespace Go.Lk
instance (w0:World):Nonempty (Sub w0):=⟨⟨w0,Keeps.refl _ _⟩⟩
end Go.Lk
namespace Go.Proofs.YtpjomdmjohjheaaGreatDoor
open Go.RowKit Go.Lk Go.Vfs
theorem zgg {l:List (ByteArray × Nat)} {s:ByteArray} {b:Nat} (h:(s,b) ∈ l) (fc:Nat -> Fl):(fc b).b.length <= tot l fc:=by
 induction l with
 | nil=>cases h
 | cons p l ih =>
  unfold tot at ih ⊢;rw [List.map_cons,List.sum_cons];rcases List.mem_cons.1 h with rfl | h
  ·exact Nat.le_add_right _ _
  ·have:=ih h;omega
theorem z6q (n:Int) (a1 a2:Nat) (w:World):Calls Tryz.prog 91 #[.int .i64 n,.pointer (some ⟨a1,0,none⟩),.pointer (some ⟨a2,0,none⟩)] w fun e w'=>∃ a3,e=.returned (.func (.func 92) #[] #[.pointer (some ⟨a1,0,none⟩),.pointer (some ⟨a2,0,none⟩),.pointer (some ⟨a3,0,none⟩)]) /\ NewAt w w' a3 (.cells #[.int .i64 n] 3 (0,0)):=by
 go_enter Tryz.func91,Tryz.ntmps91;go_wp2_with (first | go_skip | (with_reducible refine zm (t:=3) ?_))
 refine za (vbox1 (v:=.int .i64 n) (by rfl) (by rfl) ?_);intro a3 w1 n1;simp only [Nat.reduceAdd,qn];go_wp2;go_ret;exact ⟨a3,rfl,n1⟩
theorem zc0 (d:Nat) (s:ByteArray) (v2:Value) (bs:List Nat) (D:Dk) (F R Rb:Nat -> Prop) (fc:Nat -> Fl) (w:World) (h:DiskAt w d F R D fc) (hs:s.size <= maxLen) (hv:Bytes w Rb v2 bs) (hRF:∀ k,Rb k -> ¬ F k) (hc:D.changes < 1000000) :
  Calls Tryz.prog 27 #[.pointer (some ⟨d,0,none⟩),.string s,v2] w fun e w'=>∃ (er:Int) (D':Dk) (fc':Nat -> Fl),e=.returned (.int .i64 er) /\ Now w w' d F R D' fc' /\ AppR D fc s bs er D' fc':=by
 have H:=qq h;have HS:=qq hs;have HC:=qq hc;have HV:=qq hv;have HRF:=qq hRF;obtain ⟨⟨m1,m2,sv,h3,h4,h5,h6,h7,h8,h9⟩,g1,g2,g3,g3b,g4,g5,g6⟩:=h;obtain ⟨ba,bc,rfl,b6,b7,b8⟩:=hv.rows;obtain ⟨k,hk⟩:∃ k,k=bs.length:=⟨_,rfl⟩
 have HK:=qq hk;rw [<- hk] at b6;have H3:=qq h3;have H4:=qq h4;have G5:=qq g5;rw [<- hk];have hkm:k <= 9223372036854775807:=by unfold maxLen at b7;omega
 clear hs hc hv hRF g2 g3 g3b g4 h4 h5 h6 h7 h3 h8 h9 g1 g6 g5 b8 hk;go_enter Tryz.func27,Tryz.ntmps27;go_wp2_with (first | go_skip | (with_reducible refine zm (t:=22) ?_))
 refine za (vbox1 (v:=.slice ba k bc) (by rfl) (by rfl) ?_);intro a2 w1 n1;simp only [Nat.reduceAdd,qn];have B2:=qq n1.blk;have K1:=qq n1.k;have XF2:Hid (¬ F a2):=fun e=>by have:=G5.out _ e;have:=n1.ge;omega
 have FA:=qq (z1m d m1 m2 sv D w1 (n1.k.nb H3.out) (H4.out.nb n1.k) s HS.out);clear n1;go_wp2_with fail;refine FA.out.mono ?_;rintro _ w2 ⟨rfl,k2⟩;obtain ⟨r,er,hr⟩:∃ r er,found D s=(r,er):=⟨_,_,rfl⟩
 have HR:=qq hr;rw [hr];clear hr FA;simp only;go_wp2_with (first | go_skip | (with_reducible refine z2q (t:=104) ?_))
 refine za (valloc (z:=.pointer none) zero63i ?_);intro a1 w3 n3;simp only [Nat.reduceAdd,qn];have c3:=n3.blk;go_wp2_with (first | go_skip | (with_reducible refine zf (t:=104) ?_))
 refine za (zc rfl (zd (v:=ptr r) (n:=1) (by kernel_rfl) (by rfl) (by rfl) c3 (by cases r <;> rfl) (by simp [Value.cells]) (by cases r <;> simp [ptr,Value.cells,Value.oneCell'])) ?_);intro w4 s4;simp only [Nat.reduceAdd,qn];have k14:Keeps Nb w1 w4:=(k2.trans_nb n3.k).own (Nat.le_trans k2.size n3.ge) s4.k;have K4:=qq (K1.out.trans_nb k14);have XF1:Hid (¬ F a1):=fun e=>by have:=G5.out _ e;have:=n3.ge;have:=k2.size;have:=K1.out.size;omega
 have B1:Hid (w4.heap[a1]?=some (.cells #[ptr r] 104 (0,0))):=by
  have:=s4.blk;cases r <;> exact this
 have B24:=qq (k14.nb B2.out);have c24:w4.cell? ⟨a2,0,none⟩=some (.slice ba k bc):=cell_of_block B24.out;clear n3 c3 s4 k14 k2 B2;rcases z04 D s with ⟨q1,q2⟩ | ⟨q1,q2,q3⟩ | ⟨b,q1,q2,q3⟩
 ·
  obtain ⟨rfl,rfl⟩:none=r /\ (2:Int)=er:=by have:=q2.symm.trans HR.out;simpa using this
  clear q2;go_wp2;go_ret;exact ⟨_,_,_,rfl,Now.same H.out K4.out,.inl ⟨q1,rfl,rfl,rfl⟩⟩
 ·
  obtain ⟨rfl,rfl⟩:none=r /\ (6:Int)=er:=by have:=q3.symm.trans HR.out;simpa using this
  clear q3;go_wp2;go_ret;exact ⟨_,_,_,rfl,Now.same H.out K4.out,.inr (.inl ⟨q1,q2,rfl,rfl,rfl⟩)⟩
 ·
  obtain ⟨rfl,rfl⟩:some b=r /\ (0:Int)=er:=by have:=q3.symm.trans HR.out;simpa using this
  have Q1:=qq q1;have Q2:=qq q2;clear q1 q2 q3;go_wp2;have C2:∀ u:Sub w4,u.wd.cell? ⟨a2,0,none⟩=some (.slice ba k bc):=fun u=>cell_of_block (u.k.nb B24.out);have RA:Hid (∀ u:Sub w4,Calls Tryz.prog 90 #[.pointer (some ⟨d,0,none⟩)] u.wd fun e w'=>e=.returned (.int .i64 (D.cap - (tot D.files fc:Nat))) /\ Keeps Nb u.wd w'):=fun u=>zh0 d D F R fc u.wd (H.out.nb (K4.out.trans_nb u.k));refine z40 (by kernel_rfl) (by kernel_rfl) ?_;obtain ⟨rm,hrm⟩:∃ rm,rm=D.cap - ((tot D.files fc:Nat):Int):=⟨_,rfl⟩
  have HRM:=qq hrm;rw [<- hrm] at RA;clear hrm
  repeat (go_big_quiet_step ((go_at_call 90;with_reducible exact zd2 (RA.out _))))
  refine wpQuiet_nil ?_;rintro w5 ⟨u5,hu5⟩;have K45:Hid (Keeps Nb w4 w5):=hu5 ▸ u5.k;clear hu5 RA C2 c24;have c25:w5.cell? ⟨a2,0,none⟩=some (.slice ba k bc):=cell_of_block (K45.out.nb B24.out);by_cases hle:rm < k
  ·go_wp2;go_ret;exact ⟨_,_,_,rfl,Now.same H.out (K4.out.trans_nb K45.out),.inr (.inr ⟨b,Q1.out,Q2.out,.inl ⟨by rw [<- HRM.out,<- HK.out];exact hle,rfl,rfl,rfl⟩⟩)⟩
  ·
   go_wp2;have K5:=qq (K4.out.trans_nb K45.out);have B25:=qq (K45.out.nb B24.out);have B15:=qq (K45.out.nb B1.out);have HLE:Hid ((bs.length:Int) <= D.cap - (tot D.files fc:Nat)):=by rw [<- HRM.out,<- HK.out];show (k:Int) <= rm;omega
   clear hle HRM K45 B24 B1 K4;have HS5:Hid ((fun u:World=>u.cell? ⟨a2,0,none⟩=some (.slice ba k bc) /\ True) w5.drew):=⟨c25,trivial⟩
   refine WT.region (fun u:World=>u.cell? ⟨a2,0,none⟩=some (.slice ba k bc) /\ True) 15 16 [0,1,2,3,5,6,7,8,10,11,12,4,9,13,14,15] (by kernel_rfl) rfl ?_;have HS:=HS5;refine WT.t 0 (v:=_) (y:=by rintro w ⟨C1,C2⟩;go_simp;with_reducible rfl) (s:=HS.out) (h:=?_);refine WT.t 1 (v:=_) (y:=by rintro w ⟨C1,C2⟩;go_simp;with_reducible rfl) (s:=HS.out) (h:=?_);refine WT.t 2 (v:=.slice ba k bc) (y:=by rintro w ⟨C1,C2⟩;exact zb (by kernel_rfl) (by rfl) C1) (s:=HS.out) (h:=?_);refine WT.t 3 (v:=_) (y:=by rintro w ⟨C1,C2⟩;go_simp;with_reducible rfl) (s:=HS.out) (h:=?_);refine WT.t 5 (v:=_) (y:=by rintro w ⟨C1,C2⟩;go_simp;with_reducible rfl) (s:=HS.out) (h:=?_);refine WT.t 6 (v:=.slice ba k bc) (y:=by rintro w ⟨C1,C2⟩;exact zb (by kernel_rfl) (by rfl) C1) (s:=HS.out) (h:=?_);refine WT.t 7 (v:=_) (y:=by rintro w ⟨C1,C2⟩;go_simp;with_reducible rfl) (s:=HS.out) (h:=?_);refine WT.t 8 (v:=_) (y:=by rintro w ⟨C1,C2⟩;go_simp;with_reducible rfl) (s:=HS.out) (h:=?_);refine WT.t 10 (v:=_) (y:=by rintro w ⟨C1,C2⟩;go_simp;with_reducible rfl) (s:=HS.out) (h:=?_);refine WT.t 11 (v:=.slice ba k bc) (y:=by rintro w ⟨C1,C2⟩;exact zb (by kernel_rfl) (by rfl) C1) (s:=HS.out) (h:=?_);refine WT.t 12 (v:=_) (y:=by rintro w ⟨C1,C2⟩;go_simp;with_reducible rfl) (s:=HS.out) (h:=?_);refine WT.call 4 (by simp only [qi];rfl) (by kernel_rfl) (by rfl) (by go_simp;first | done | rfl | exact ⟨⟨rfl,rfl⟩,rfl⟩) (z6q (k:Int) a1 a2 w5.drew) ?_;rintro _ w6 ⟨x1,rfl,n6⟩;have K56:Hid (Keeps Nb w5 w6):=(Keeps.refl Nb w5).drew.trans_nb n6.k;refine ⟨_,rfl,⟨cell_of_block (K56.out.nb B25.out),trivial⟩,?_⟩;simp only [Nat.reduceAdd,qn];refine WT.call 9 (by simp only [qi];rfl) (by kernel_rfl) (by rfl) (by go_simp;exact IntWalk.i64_in _ (by omega)) (z6q ((k:Int) / 2) a1 a2 w6) ?_;rintro _ w7 ⟨x2,rfl,n7⟩;have K57:=qq (K56.out.trans_nb n7.k);refine ⟨_,rfl,⟨cell_of_block (K57.out.nb B25.out),trivial⟩,?_⟩;simp only [Nat.reduceAdd,qn];refine WT.call 13 (by simp only [qi];rfl) (by kernel_rfl) (by rfl) (by go_simp;first | done | rfl | exact ⟨⟨rfl,rfl⟩,rfl⟩) (z6q (k:Int) a1 a2 w7) ?_;rintro _ w8 ⟨x3,rfl,n8⟩;have K58:=qq (K57.out.trans_nb n8.k);refine ⟨_,rfl,⟨cell_of_block (K58.out.nb B25.out),trivial⟩,?_⟩;simp only [Nat.reduceAdd,qn];have X1:=qq (n8.k.nb (n7.k.nb n6.blk));have X2:=qq (n8.k.nb n7.blk);have X3:=qq n8.blk;have XN:Hid (¬ F x1 /\ ¬ F x2 /\ ¬ F x3):=by
    have e0:=K5.out.size;have e1:=n6.ge;have e2:=n7.ge;have e3:=n8.ge;have e4:=K56.out.size;have e5:=n7.k.size;have e1':w5.heap.size <= x1:=e1;exact ⟨fun e=>by have:=G5.out _ e;omega,fun e=>by have:=G5.out _ e;omega,fun e=>by have:=G5.out _ e;omega⟩
   have B28:=qq (K58.out.nb B25.out);have B18:=qq (K58.out.nb B15.out);have K8:=qq (K5.out.trans_nb K58.out);clear K56 K57 K58 n6 n7 n8 B25 B15 K5 HS HS5 c25;have H8:=qq (H.out.nb K8.out);have H38:=qq (K8.out.nb H3.out);cases hdd:D.dead
   ·
    have HW:Hid (Ways w8 d m1 m2 sv (chg D).1 (chg D).2.1 92 92 92 #[.pointer (some ⟨a1,0,none⟩),.pointer (some ⟨a2,0,none⟩),.pointer (some ⟨x1,0,none⟩)] #[.pointer (some ⟨a1,0,none⟩),.pointer (some ⟨a2,0,none⟩),.pointer (some ⟨x2,0,none⟩)] #[.pointer (some ⟨a1,0,none⟩),.pointer (some ⟨a2,0,none⟩),.pointer (some ⟨x3,0,none⟩)] fun w'=>Now w8 w' d F R (chg D).1 (if (chg D).2.1=0 then fc else setf fc b ⟨(fc b).b ++ bs.take (if (chg D).2.1=2 then bs.length / 2 else bs.length),(fc b).lasts⟩)):=by
     intro w9 hb9 hk9;have D9:=H8.out.chg H38.out hb9 hk9 HC.out;have kw9:Keeps F w8 w9:=hk9.mono (fun i _ e=>e ▸ H.out.fd);have hd:∀ x,¬ F x -> ¬ x=d:=fun x hx e=>hx (e ▸ H.out.fd);have hn:=z03 D;have hmem:=zn Q2.out;have hrf:Ref (chg D).1 b:=z1f (by rw [hn.1];exact Q2.out);have htot:(fc b).b.length <= tot D.files fc:=zgg hmem fc;have hcap:=H.out.nums.cap;have hle:=HLE.out;have BB:Bytes w9 Rb (.slice ba k bc) bs:=by rw [HK.out];exact (HV.out.keeps K8.out (fun _ _ e=>e)).keeps hk9 (fun i hi e=>HRF.out i hi (e ▸ H.out.fd))
     have go:∀ (x n:Nat),w8.heap[x]?=some (.cells #[.int .i64 (n:Nat)] 3 (0,0)) -> ¬ F x -> n <= bs.length -> Calls Tryz.prog 92 #[.pointer (some ⟨a1,0,none⟩),.pointer (some ⟨a2,0,none⟩),.pointer (some ⟨x,0,none⟩)] w9 fun e w'=>(∃ v,e=.returned v) /\ Now w8 w' d F R (chg D).1 (setf fc b ⟨(fc b).b ++ bs.take n,(fc b).lasts⟩):=fun x n hx hxF hnl =>
      (zfo d b a1 a2 x n _ bs (chg D).1 F R Rb fc w9 D9 hrf (hk9.at B18.out (hd _ XF1.out)) (hk9.at B28.out (hd _ XF2.out)) (hk9.at hx (hd _ hxF)) BB hnl (by omega)).mono (fun e w' h=>⟨h.1,h.2.from kw9⟩)
     refine ⟨fun e=>?_,fun e=>?_,fun e=>?_,fun e=>?_⟩
     ·rw [if_pos e];exact Now.of D9 kw9
     ·rw [if_neg (by omega),if_neg (by omega)];refine go x1 bs.length ?_ XN.out.1 (Nat.le_refl _);rw [<- HK.out];exact X1.out
     ·rw [if_neg (by omega),if_pos e];refine go x2 (bs.length / 2) ?_ XN.out.2.1 (by omega);rw [<- HK.out];exact X2.out
     ·rw [if_neg (by omega),if_neg (by omega)];refine go x3 bs.length ?_ XN.out.2.2 (Nat.le_refl _);rw [<- HK.out];exact X3.out
    have hnu:=H.out.nums;have CA:=qq (z1a d m1 m2 sv D w8 H38.out hdd ⟨hnu.ch.1,hnu.ch.2⟩ hnu.fu hnu.fn hnu.fe 92 92 92 _ _ _ (fun _ _=>rfl) (fun _ _=>rfl) (fun _ _=>rfl) _ HW.out);have HD:=qq hdd;clear HW hdd hnu;refine WT.call 14 (by simp only [qi];rfl) (by kernel_rfl) (by rfl) (by go_simp;first | done | rfl | exact ⟨⟨rfl,rfl⟩,rfl⟩) CA.out ?_;rintro _ w9 ⟨rfl,hN⟩;have c29:w9.cell? ⟨a2,0,none⟩=some (.slice ba k bc):=by obtain ⟨F',R',-,-,-,hk9⟩:=hN;exact cell_of_block (hk9.at B28.out XF2.out)
    refine ⟨_,rfl,⟨c29,trivial⟩,?_⟩;simp only [Nat.reduceAdd,qn];refine WT.stop (by kernel_rfl) ?_;refine WP.o 15 (v:=_) (y:=by go_simp;first | with_reducible rfl | exact ⟨rfl,rfl⟩) (h:=?_);refine WP.done (by kernel_rfl) ?_;go_wp2;go_ret;exact ⟨_,_,_,rfl,hN.from ((Keeps.refl F w).trans_nb K8.out),.inr (.inr ⟨b,Q1.out,Q2.out,.inr (.inr ⟨HLE.out,HD.out,rfl,rfl,rfl⟩)⟩)⟩
   ·have CA:=qq (z0t d m1 m2 sv D w8 H38.out hdd (.func (.func 92) #[] #[.pointer (some ⟨a1,0,none⟩),.pointer (some ⟨a2,0,none⟩),.pointer (some ⟨x1,0,none⟩)]) (.func (.func 92) #[] #[.pointer (some ⟨a1,0,none⟩),.pointer (some ⟨a2,0,none⟩),.pointer (some ⟨x2,0,none⟩)]) (.func (.func 92) #[] #[.pointer (some ⟨a1,0,none⟩),.pointer (some ⟨a2,0,none⟩),.pointer (some ⟨x3,0,none⟩)]));have HD:=qq hdd;clear hdd;refine WT.call 14 (by simp only [qi];rfl) (by kernel_rfl) (by rfl) (by go_simp;first | done | rfl | exact ⟨⟨rfl,rfl⟩,rfl⟩) CA.out ?_;rintro _ w9 ⟨rfl,rfl⟩;refine ⟨_,rfl,⟨cell_of_block B28.out,trivial⟩,?_⟩;simp only [Nat.reduceAdd,qn];refine WT.stop (by kernel_rfl) ?_;refine WP.o 15 (v:=_) (y:=by go_simp;first | with_reducible rfl | exact ⟨rfl,rfl⟩) (h:=?_);refine WP.done (by kernel_rfl) ?_;go_wp2;go_ret;exact ⟨_,_,_,rfl,Now.same H.out K8.out,.inr (.inr ⟨b,Q1.out,Q2.out,.inr (.inl ⟨HLE.out,HD.out,rfl,rfl,rfl⟩)⟩)⟩
end Go.Proofs.YtpjomdmjohjheaaGreatDoor
end
