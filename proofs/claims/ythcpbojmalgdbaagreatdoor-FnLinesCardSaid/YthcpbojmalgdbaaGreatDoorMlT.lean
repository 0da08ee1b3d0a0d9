/- Merged out of this seat's own texts. -/
import Derived.Lib.Split
import Derived.Lib.Atoi
import Derived.Lib.ItoaNum
import Derived.Test.YthcpbojmalgdbaaGreatDoorMlC
import Derived.Lib.Join
import Derived.Lib.SplitLaws
set_option linter.unusedVariables false
set_option linter.unusedSimpArgs false
namespace Go.Proofs.YthcpbojmalgdbaaGreatDoor.Core
open Go.Lib
def cutL (c:UInt8):List UInt8→List (List UInt8)
 | []=>[[]]
 | b :: r=>if b=c then [] :: cutL c r else match cutL c r with
  | []=>[[b]]
  | p :: q=>(b :: p) :: q
theorem cutL_app {c:UInt8} {r:List UInt8}:∀ {p:List UInt8},(∀ b∈p,b≠c)→cutL c (p++c :: r)=p :: cutL c r
 | [],_=>by simp [cutL]
 | b :: p,h=>by
  have ih:=cutL_app (r:=r) (p:=p) (fun x hx=>h x (List.mem_cons_of_mem _ hx))
  rw [List.cons_append,cutL,if_neg (h b (List.mem_cons_self ..)),ih]
theorem cutL_none {c:UInt8}:∀ {p:List UInt8},(∀ b∈p,b≠c)→cutL c p=[p]
 | [],_=>rfl
 | b :: p,h=>by
  have ih:=cutL_none (p:=p) (fun x hx=>h x (List.mem_cons_of_mem _ hx))
  rw [cutL,if_neg (h b (List.mem_cons_self ..)),ih]
theorem cutL_len (c:UInt8):∀ s:List UInt8,1≤(cutL c s).length∧(cutL c s).length≤s.length+1
 | []=>by simp [cutL]
 | b :: r=>by
  have ih:=cutL_len c r
  unfold cutL
  split
  ·simp;omega
  ·cases h:cutL c r with
   | nil=>simp
   | cons p q=>rw [h] at ih;simp at ih ⊢;omega
theorem occ_one {s:List UInt8} {c:UInt8} {j:Nat}:occAt s [c] j=true↔s[j]? = some c:=by
 unfold occAt
 cases h:s.drop j with
 | nil =>
  have hl:s.length≤j:=List.drop_eq_nil_iff.1 h
  rw [List.getElem?_eq_none hl]
  simp
 | cons x r =>
  have hx:s[j]? = some x:=by
   have:=List.getElem?_drop (xs:=s) (i:=j) (j:=0)
   rw [h] at this
   simpa using this.symm
  rw [hx]
  constructor
  ·intro h;simp at h;rw [h]
  ·intro h;rw [Option.some.inj h];simp
theorem split_cut (c:UInt8):∀ (n:Nat) (s:List UInt8),s.length≤n→split s [c]=cutL c s:=by
 intro n
 induction n with
 | zero =>
  intro s h
  have:s=[]:=List.length_eq_zero_iff.1 (by omega)
  subst this
  rfl
 | succ n ih =>
  intro s h
  rcases index_spec s [c] with ⟨h1,h2⟩ | ⟨i,h1,h2,h3,h4⟩
  ·have hno:∀ b∈s,b≠c:=by
    intro b hb e
    obtain ⟨j,hj,he⟩:=List.mem_iff_getElem.1 hb
    have t:=h2 j (by omega)
    rw [← Bool.not_eq_true,occ_one,List.getElem?_eq_getElem hj,he,e] at t
    exact t rfl
   unfold split
   rw [cutL_none hno,count_miss h1]
   rfl
  ·have hi:=occ_one.1 h3
   have hil:=(List.getElem?_eq_some_iff.1 hi).1
   have hs:s=s.take i++c :: s.drop (i+1):=by
    have e:=List.take_append_drop i s
    rw [List.drop_eq_getElem_cons hil] at e
    rw [List.getElem?_eq_getElem hil] at hi
    rw [Option.some.inj hi] at e
    exact e.symm
   have hno:∀ b∈s.take i,b≠c:=by
    intro b hb e
    obtain ⟨j,hj,he⟩:=List.mem_iff_getElem.1 hb
    rw [List.length_take] at hj
    have t:=h4 j (by omega)
    rw [← Bool.not_eq_true,occ_one] at t
    refine t ?_
    rw [List.getElem_take] at he
    rw [List.getElem?_eq_getElem (by omega),he,e]
   have ih':=ih (s.drop (i+1)) (by rw [List.length_drop];omega)
   have e1:split s [c]=s.take i :: split (s.drop (i+1)) [c]:=by
    unfold split
    rw [count_hit (by simp) h1,Nat.add_comm 1,splitK,if_neg (by rw [h1];simp),h1]
    rfl
   rw [e1,ih']
   conv=>rhs;rw [hs]
   rw [cutL_app hno]
def numFrom:Int→List UInt8→Int
 | n,[]=>n
 | n,b :: r=>if 48≤b.toNat∧b.toNat≤57 then numFrom (n*10+((b.toNat:Nat):Int)-48) r else -1
def numL (s:List UInt8):Int:=if 1≤s.length∧s.length≤5∧¬ (1<s.length∧s.head? = some 48) then numFrom 0 s else -1
theorem numFrom_dec:∀ (s:List UInt8) (n:Nat),(∀ b∈s,48≤b.toNat∧b.toNat≤57)→∃ m:Nat,numFrom n s=m∧decFrom n s=some m∧m<(n+1)*10 ^ s.length
 | [],n,_=>⟨n,rfl,rfl,by simp⟩
 | b :: r,n,h=>by
  have hb:=h b (List.mem_cons_self ..)
  obtain ⟨m,h1,h2,h3⟩:=numFrom_dec r (n*10+(b.toNat-48)) (fun x hx=>h x (List.mem_cons_of_mem _ hx))
  refine ⟨m,?_,?_,?_⟩
  ·unfold numFrom
   rw [if_pos hb]
   have e:(n:Int)*10+((b.toNat:Nat):Int)-48=((n*10+(b.toNat-48):Nat):Int):=by omega
   rw [e,h1]
  ·unfold decFrom digitVal
   rw [if_pos hb]
   exact h2
  ·refine Nat.lt_of_lt_of_le h3 ?_
   rw [List.length_cons,Nat.pow_succ,Nat.mul_comm (10 ^ r.length) 10,← Nat.mul_assoc]
   exact Nat.mul_le_mul_right _ (by omega)
theorem numFrom_bad:∀ (s:List UInt8) (n:Int),(∃ b∈s,¬ (48≤b.toNat∧b.toNat≤57))→numFrom n s = -1
 | [],_,h=>by obtain ⟨b,hb,_⟩:=h;cases hb
 | b :: r,n,h=>by
  unfold numFrom
  by_cases hb:48≤b.toNat∧b.toNat≤57
  ·rw [if_pos hb]
   obtain ⟨x,hx,hn⟩:=h
   rcases List.mem_cons.1 hx with rfl | hx
   ·exact absurd hb hn
   ·exact numFrom_bad r _ ⟨x,hx,hn⟩
  ·rw [if_neg hb]
def bt (s:ByteArray):List UInt8:=s.data.toList
def mkB (l:List UInt8):ByteArray:=⟨l.toArray⟩
theorem bt_mkB (l:List UInt8):bt (mkB l)=l:=rfl
theorem mkB_bt (s:ByteArray):mkB (bt s)=s:=by cases s;simp [mkB,bt]
theorem bt_inj {a b:ByteArray} (h:bt a=bt b):a=b:=by rw [← mkB_bt a,← mkB_bt b,h]
theorem bt_append (a b:ByteArray):bt (a++b)=bt a++bt b:=by
 unfold bt
 rw [ByteArray.data_append,Array.toList_append]
theorem ba_assoc (a b c:ByteArray):a++b++c=a++(b++c):=bt_inj (by rw [bt_append,bt_append,bt_append,bt_append,List.append_assoc])
theorem ba_nil (a:ByteArray):ByteArray.empty++a=a:=bt_inj (by rw [bt_append];rfl)
def decS (n:Int):ByteArray:=mkB (itoa n)
theorem decS_small {n:Int} (h0:0≤n) (h:n<10):decS n=mkB [UInt8.ofNat (48+n.toNat)]:=by
 unfold decS itoa
 rw [if_neg (by omega),decDigits,dif_pos (by omega)]
theorem decS_big {n:Int} (h:10≤n):decS n=decS (n / 10)++mkB [UInt8.ofNat (48+(n % 10).toNat)]:=by
 refine bt_inj ?_
 rw [bt_append]
 unfold decS itoa
 rw [bt_mkB,bt_mkB,bt_mkB,if_neg (by omega),if_neg (by omega),decDigits,dif_neg (by omega)]
 rw [show (n / 10).toNat=n.toNat / 10 by omega,show (n % 10).toNat=n.toNat % 10 by omega]
def cutB (c:UInt8) (s:ByteArray):List ByteArray:=(cutL c (bt s)).map mkB
def numB (s:ByteArray):Int:=numL (bt s)
theorem cutB_len (c:UInt8) (s:ByteArray):1≤(cutB c s).length∧(cutB c s).length≤s.size+1:=by
 unfold cutB
 rw [List.length_map]
 exact cutL_len c (bt s)
theorem cutL_one {c:UInt8}:∀ {s:List UInt8} {p:List UInt8},cutL c s=[p]→s=p
 | [],p,h=>by simp [cutL] at h;exact h.symm
 | b :: r,p,h=>by
  unfold cutL at h
  split at h
  ·have:=(cutL_len c r).1
   simp at h
   rw [h.2] at this
   simp at this
  ·cases e:cutL c r with
   | nil=>have:=(cutL_len c r).1;rw [e] at this;simp at this
   | cons q t =>
    rw [e] at h
    simp at h
    obtain ⟨h1,h2⟩:=h
    subst h2
    rw [cutL_one e,h1]
theorem cutB_one {c:UInt8} {s t:ByteArray} (ht:∀ b∈bt t,b≠c):cutB c s=[t]↔s=t:=by
 unfold cutB
 constructor
 ·intro h
  cases e:cutL c (bt s) with
  | nil=>rw [e] at h;simp at h
  | cons p q =>
   rw [e] at h
   simp at h
   obtain ⟨h1,h2⟩:=h
   subst h2
   have:=cutL_one e
   exact bt_inj (by rw [this,← h1,bt_mkB])
 ·intro h
  rw [h,cutL_none ht,List.map_singleton,mkB_bt]
def capAtB (caps:List Cap) (sec:ByteArray):Nat:=cntQ (fun c=>lessB c.f0 sec) caps
def capIn (caps:List Cap) (sec:ByteArray) (n:Int):List Cap :=
 if (caps[capAtB caps sec]?).map (fun c=>c.f0)=some sec then caps.set (capAtB caps sec) ⟨sec,n⟩ else insAt (capAtB caps sec) ⟨sec,n⟩ caps
def tCap:ByteArray:=⟨#[99,97,112]⟩
def tAdd:ByteArray:=⟨#[97,100,100]⟩
def tDrop:ByteArray:=⟨#[100,114,111,112]⟩
def tCompress:ByteArray:=⟨#[99,111,109,112,114,101,115,115]⟩
def tAgain:ByteArray:=⟨#[97,103,97,105,110]⟩
def tSlots:ByteArray:=⟨#[115,108,111,116,115]⟩
def tLoad:ByteArray:=⟨#[108,111,97,100]⟩
def tBound:ByteArray:=⟨#[98,111,117,110,100]⟩
def tBad:ByteArray:=⟨#[98,97,100]⟩
def tNo:ByteArray:=⟨#[110,111]⟩
def tOk:ByteArray:=⟨#[111,107]⟩
def tNone:ByteArray:=⟨#[110,111,110,101]⟩
def tCode:ByteArray:=⟨#[99,111,100,101,32]⟩
def tLate:ByteArray:=⟨#[108,97,116,101,32]⟩
def slotT (x:Int):ByteArray:=if x<0 then ⟨#[45]⟩ else decS x
def oneT (p:Flight×Int):ByteArray:=p.1.f0++⟨#[64]⟩++slotT p.2++⟨#[32]⟩
def slotsTo (b:Book) (k:Nat):ByteArray:=((b.f1.zip b.f2).take k).foldl (fun o p=>o++oneT p) ByteArray.empty
def slotsT (b:Book):ByteArray:=slotsTo b b.f1.length++tLate++decS (delayN b.f1 b.f2)
theorem slotsTo_step {b:Book} {k:Nat} {f:Flight} {x:Int} (hf:b.f1[k]? = some f) (hx:b.f2[k]? = some x):slotsTo b (k+1)=slotsTo b k++oneT (f,x):=by
 unfold slotsTo
 have h:(b.f1.zip b.f2)[k]? = some (f,x):=List.getElem?_zip_eq_some.2 ⟨hf,hx⟩
 rw [List.take_add_one,h]
 simp
def runT (r:Run):ByteArray:=decS r.f0++⟨#[45]⟩++decS r.f1++⟨#[58]⟩++decS r.f2
def runsTo (l:List Run) (k:Nat):ByteArray:=mkB (join ((l.take k).map fun r=>bt (runT r)) [32])
def runsT (l:List Run):ByteArray:=if l=[] then tNone else runsTo l l.length
def visitR (s:ByteArray):Option Visit :=
 match cutB 58 s with
 | [a,b,c]=>if numB b<0∨numB c<0 then none else some ⟨a,numB b,numB c⟩
 | _=>none
def visitsR (ws:List ByteArray):Option (List Visit):=ws.mapM visitR
def boundP (caps:List Cap) (l:List Flight) (sec:ByteArray):Int:=if capsB caps=true∧flightsB l=true∧1≤capOf sec caps then runS (capOf sec caps).toNat (sortedTo sec l l.length) [] 0 else 0
def lineR (b:Book) (w:List ByteArray):Book×ByteArray :=
 let h:=w.headD ByteArray.empty
 if h=tCap∧w.length=3 then
  if numB (w.getD 2 ByteArray.empty)<0 then (b,tBad)
  else if okB ⟨capIn b.f0 (w.getD 1 ByteArray.empty) (numB (w.getD 2 ByteArray.empty)),b.f1,b.f2⟩=true then (⟨capIn b.f0 (w.getD 1 ByteArray.empty) (numB (w.getD 2 ByteArray.empty)),b.f1,b.f2⟩,tOk) else (b,tNo)
 else if h=tAdd∧5≤w.length then
  if numB (w.getD 2 ByteArray.empty)<0∨numB (w.getD 3 ByteArray.empty)<0 then (b,tBad)
  else match visitsR (w.drop 4) with
   | none=>(b,tBad)
   | some vs=>((addR b ⟨w.getD 1 ByteArray.empty,numB (w.getD 2 ByteArray.empty),numB (w.getD 3 ByteArray.empty),vs⟩).1,tCode++decS (addR b ⟨w.getD 1 ByteArray.empty,numB (w.getD 2 ByteArray.empty),numB (w.getD 3 ByteArray.empty),vs⟩).2)
 else if h=tDrop∧w.length=2 then ((dropR b (w.getD 1 ByteArray.empty)).1,tCode++decS (dropR b (w.getD 1 ByteArray.empty)).2)
 else if w=[tCompress] then (compB b,slotsT (compB b))
 else if w=[tAgain] then (⟨b.f0,b.f1,giveB b.f0 b.f1⟩,slotsT ⟨b.f0,b.f1,giveB b.f0 b.f1⟩)
 else if w=[tSlots] then (b,slotsT b)
 else if h=tLoad∧w.length=2 then (b,runsT (runsB b.f1 b.f2 (w.getD 1 ByteArray.empty)))
 else if h=tBound∧w.length=2 then (b,decS (boundP b.f0 b.f1 (w.getD 1 ByteArray.empty)))
 else (b,tBad)
theorem lineR_ok {b:Book} (h:okB b=true) (w:List ByteArray):okB (lineR b w).1=true:=by
 unfold lineR
 dsimp only
 split
 ·split
  ·exact h
  ·split
   ·assumption
   ·exact h
 split
 ·split
  ·exact h
  ·split
   ·exact h
   ·exact (addR_ok h _).1
 split
 ·exact (dropR_ok h _).1
 split
 ·exact compB_ok h
 split
 ·exact giveB_fits (fitsB_parts h).1 (slotsB_parts (fitsB_parts h).2.1).1
 split
 ·exact h
 split
 ·exact h
 split
 ·exact h
 ·exact h
def linesB (t:ByteArray):List ByteArray:=if (cutB 10 t).getLast? = some ByteArray.empty then (cutB 10 t).dropLast else cutB 10 t
def playTo (ls:List ByteArray):Book×ByteArray:=ls.foldl (fun p l=>((lineR p.1 (cutB 32 l)).1,p.2++(lineR p.1 (cutB 32 l)).2++⟨#[10]⟩)) (emptyB,ByteArray.empty)
def sessionB (t:ByteArray):ByteArray :=
 if 10000<t.size∨200<(linesB t).length then ⟨#[116,111,111,32,108,111,110,103,10]⟩ else (playTo (linesB t)).2
theorem okB_start:okB emptyB=true:=by decide
theorem play_step {ls:List ByteArray} {k:Nat} {l:ByteArray} (h:ls[k]? = some l):playTo (ls.take (k+1))=((lineR (playTo (ls.take k)).1 (cutB 32 l)).1,(playTo (ls.take k)).2++(lineR (playTo (ls.take k)).1 (cutB 32 l)).2++⟨#[10]⟩):=by
 unfold playTo
 rw [List.take_add_one,h,List.foldl_append]
 rfl
theorem play_ok:∀ (ls:List ByteArray) (b:Book) (o:ByteArray),okB b=true→okB (ls.foldl (fun p l=>((lineR p.1 (cutB 32 l)).1,p.2++(lineR p.1 (cutB 32 l)).2++⟨#[10]⟩)) (b,o)).1=true
 | [],b,o,h=>h
 | l :: r,b,o,h=>by
  rw [List.foldl_cons]
  exact play_ok r _ _ (lineR_ok h _)
theorem inter_snoc (s x:List UInt8):∀ l:List (List UInt8),l≠[]→s.intercalate (l++[x])=s.intercalate l++s++x
 | [],h=>absurd rfl h
 | [a],_=>by simp [List.intercalate]
 | a :: b :: r,_=>by
  have ih:=inter_snoc s x (b :: r) (by simp)
  have e1:∀ (c:List UInt8) (t:List (List UInt8)),t≠[]→s.intercalate (c :: t)=c++s++s.intercalate t:=by
   intro c t ht
   cases t with
   | nil=>exact absurd rfl ht
   | cons d t=>simp [List.intercalate,List.intersperse]
  rw [List.cons_append,e1 a _ (by simp),ih,e1 a _ (by simp)]
  simp only [List.append_assoc]
theorem runsTo_zero (l:List Run):runsTo l 0=ByteArray.empty:=by
 unfold runsTo join
 simp [List.intercalate]
 rfl
theorem runsTo_step {l:List Run} {k:Nat} {r:Run} (h:l[k]? = some r):runsTo l (k+1)=if k=0 then runT r else runsTo l k++⟨#[32]⟩++runT r:=by
 have hk:=(List.getElem?_eq_some_iff.1 h).1
 unfold runsTo join
 rw [List.take_add_one,h]
 split
 ·rename_i h0
  subst h0
  simp [List.intercalate,mkB_bt]
 ·rename_i h0
  refine bt_inj ?_
  rw [bt_append,bt_append,bt_mkB,bt_mkB,Option.toList_some,List.map_append,List.map_singleton,inter_snoc _ _ _ (by
   intro e
   have:=congrArg List.length e
   rw [List.length_map,List.length_take,List.length_nil] at this
   omega)]
  rfl
theorem visitsR_step {ws:List ByteArray} {k:Nat} {w:ByteArray} {vs:List Visit} (hw:ws[k]? = some w) (h:visitsR (ws.take k)=some vs):visitsR (ws.take (k+1))=(visitR w).map fun v=>vs++[v]:=by
 unfold visitsR at h ⊢
 rw [List.take_add_one,hw,Option.toList_some,List.mapM_append,h]
 cases e:visitR w <;> simp [e]
theorem visitsR_none {ws:List ByteArray} {k:Nat} (h:visitsR (ws.take k)=none):visitsR ws=none:=by
 have e:=List.take_append_drop k ws
 unfold visitsR at h ⊢
 rw [← e,List.mapM_append,h]
 rfl
theorem visitsR_len {ws:List ByteArray}:∀ {vs:List Visit},visitsR ws=some vs→vs.length=ws.length:=by
 unfold visitsR
 induction ws with
 | nil=>intro vs h;simp at h;rw [h];rfl
 | cons w r ih =>
  intro vs h
  rw [List.mapM_cons] at h
  cases e:visitR w with
  | none=>rw [e] at h;simp at h
  | some v =>
   cases e2:List.mapM visitR r with
   | none=>rw [e,e2] at h;simp at h
   | some t =>
    rw [e,e2] at h
    simp at h
    rw [← h]
    simp [ih e2]
theorem digits_len:∀ (k u:Nat),1≤k→u<10 ^ k→(decDigits u).length≤k
 | 0,u,h,_=>by omega
 | k+1,u,_,h=>by
  rw [decDigits]
  split
  ·simp
  ·rename_i hu
   cases k with
   | zero=>simp at h;omega
   | succ k =>
    have ih:=digits_len (k+1) (u / 10) (by omega) (by rw [Nat.pow_succ] at h;omega)
    rw [List.length_append,List.length_singleton]
    omega
theorem bt_size (s:ByteArray):s.size=(bt s).length:=by cases s;rfl
theorem decS_size {n:Int} (h0:0≤n) (h1:n<1000000000000000000):(decS n).size≤18:=by
 rw [bt_size]
 unfold decS itoa
 rw [bt_mkB,if_neg (by omega)]
 exact digits_len 18 n.toNat (by decide) (by omega)
theorem size_app (a b:ByteArray):(a++b).size=a.size+b.size:=by
 rw [bt_size,bt_append,List.length_append,← bt_size,← bt_size]
theorem slotT_size {x:Int} (h:x≤10060):(slotT x).size≤18:=by
 unfold slotT
 split
 ·decide
 ·exact decS_size (by omega) (by omega)
theorem oneT_size {f:Flight} {x:Int} (hf:f.f0.size≤8) (hx:x≤10060):(oneT (f,x)).size≤28:=by
 unfold oneT
 rw [size_app,size_app,size_app]
 dsimp only
 have h1:=slotT_size hx
 have h2:(⟨#[64]⟩:ByteArray).size=1:=rfl
 have h3:(⟨#[32]⟩:ByteArray).size=1:=rfl
 omega
theorem slotsTo_size {b:Book} (h:okB b=true):∀ k,k≤b.f1.length→(slotsTo b k).size≤28*k
 | 0,_=>by
  unfold slotsTo
  rw [List.take_zero,List.foldl_nil]
  exact Nat.le_refl _
 | k+1,hk=>by
  have ih:=slotsTo_size h k (by omega)
  obtain ⟨hfl,hlen,hs⟩:=slotsB_parts (fitsB_parts h).2.1
  have hf:b.f1[k]? = some b.f1[k]:=List.getElem?_eq_getElem (by omega)
  have hx:b.f2[k]? = some b.f2[k]:=List.getElem?_eq_getElem (by omega)
  rw [slotsTo_step hf hx,size_app]
  have hn:=(flightB_parts ((flightsB_parts hfl).2.1 _ (List.mem_of_getElem? hf))).1
  have h8:b.f1[k].f0.size≤8:=by
   unfold nameB inB at hn
   simp only [Bool.and_eq_true,decide_eq_true_eq] at hn
   have:=hn.1.2
   omega
  have:=oneT_size h8 (hs _ (List.mem_of_getElem? hx)).2
  omega
theorem runT_size {r:Run} (h0:0≤r.f0∧r.f0<1000000000) (h1:0≤r.f1∧r.f1<1000000000) (h2:0≤r.f2∧r.f2<1000000000):(runT r).size≤56:=by
 unfold runT
 rw [size_app,size_app,size_app,size_app]
 have a0:=decS_size h0.1 (by omega)
 have a1:=decS_size h1.1 (by omega)
 have a2:=decS_size h2.1 (by omega)
 have e1:(⟨#[45]⟩:ByteArray).size=1:=rfl
 have e2:(⟨#[58]⟩:ByteArray).size=1:=rfl
 omega
theorem runsTo_size {l:List Run} (h:∀ r∈l,(runT r).size≤56):∀ k,k≤l.length→(runsTo l k).size≤57*k
 | 0,_=>by rw [runsTo_zero];exact Nat.le_refl _
 | k+1,hk=>by
  have ih:=runsTo_size h k (by omega)
  have hr:l[k]? = some l[k]:=List.getElem?_eq_getElem (by omega)
  have h1:=h _ (List.mem_of_getElem? hr)
  rw [runsTo_step hr]
  split
  ·omega
  ·rw [size_app,size_app]
   have e1:(⟨#[32]⟩:ByteArray).size=1:=rfl
   omega
theorem atoi_digits {s:List UInt8} (h1:1≤s.length) (h5:s.length≤5) (hd:∀ b∈s,48≤b.toNat∧b.toNat≤57):∃ m:Nat,atoi s=some (m:Int)∧numFrom 0 s=(m:Int)∧m<100000:=by
 obtain ⟨m,e1,e2,e3⟩:=numFrom_dec s 0 hd
 refine ⟨m,?_,e1,?_⟩
 ·cases s with
  | nil=>simp at h1
  | cons b r =>
   have hb:=hd b (List.mem_cons_self ..)
   have n1:(b == 45)=false:=by rw [beq_eq_false_iff_ne];intro e;rw [e] at hb;exact absurd hb (by decide)
   have n2:(b == 43)=false:=by rw [beq_eq_false_iff_ne];intro e;rw [e] at hb;exact absurd hb (by decide)
   unfold atoi decNat
   dsimp only
   rw [n1,n2]
   simp only [List.isEmpty_cons,e2]
   rfl
 ·have:10 ^ s.length≤10 ^ 5:=Nat.pow_le_pow_right (by decide) h5
  omega
theorem numL_digits {s:List UInt8} (h1:1≤s.length) (h5:s.length≤5) (h0:¬ (1<s.length∧s.head? = some 48)) (hd:∀ b∈s,48≤b.toNat∧b.toNat≤57):numL s=numFrom 0 s:=by
 unfold numL
 rw [if_pos ⟨h1,h5,h0⟩]
theorem numL_bad {s:List UInt8} (h:¬ (1≤s.length∧s.length≤5)∨(1<s.length∧s.head? = some 48)∨∃ b∈s,¬ (48≤b.toNat∧b.toNat≤57)):numL s = -1:=by
 unfold numL
 split
 ·rename_i hc
  rcases h with h | h | h
  ·exact absurd ⟨hc.1,hc.2.1⟩ h
  ·exact absurd h hc.2.2
  ·exact numFrom_bad s 0 h
 ·rfl
theorem delay_bounds {b:Book} (h:okB b=true):0≤delayN b.f1 b.f2∧delayN b.f1 b.f2≤100000:=by
 obtain ⟨_,hsb,ht,_⟩:=fitsB_parts h
 obtain ⟨hfl,hlen,hs⟩:=slotsB_parts hsb
 obtain ⟨h8,hfs,_⟩:=flightsB_parts hfl
 unfold delayN
 rw [if_pos hsb]
 have key:∀ k,k≤b.f1.length→0≤delayTo b.f1 b.f2 k∧delayTo b.f1 b.f2 k≤10100*(k:Int):=by
  intro k
  induction k with
  | zero=>intro _;rw [delayTo_zero];omega
  | succ k ih =>
   intro hk
   obtain ⟨i1,i2⟩:=ih (by omega)
   have hf:b.f1[k]? = some b.f1[k]:=List.getElem?_eq_getElem (by omega)
   have hx:b.f2[k]? = some b.f2[k]:=List.getElem?_eq_getElem (by omega)
   rw [delayTo_step hf hx]
   have hm:(b.f1[k],b.f2[k])∈b.f1.zip b.f2:=List.mem_of_getElem? (List.getElem?_zip_eq_some.2 ⟨hf,hx⟩)
   have hp:=List.all_eq_true.1 ht _ hm
   have hb:=hs _ (List.mem_of_getElem? hx)
   have hpl:=flightB_parts (hfs _ (List.mem_of_getElem? hf))
   unfold delayOf
   split
   ·rename_i h0
    unfold timeP inB at hp
    rw [decide_eq_true h0] at hp
    simp only [Bool.not_true,Bool.false_or,Bool.and_eq_true,decide_eq_true_eq] at hp
    have:=hp.1
    omega
   ·omega
 have:=key b.f1.length (Nat.le_refl _)
 omega
theorem slotsT_size {b:Book} (h:okB b=true):(slotsT b).size≤1000:=by
 unfold slotsT
 rw [size_app,size_app]
 have h1:=slotsTo_size h b.f1.length (Nat.le_refl _)
 have h2:=(flightsB_parts (slotsB_parts (fitsB_parts h).2.1).1).1
 have h3:=delay_bounds h
 have h4:=decS_size h3.1 (by omega)
 have e1:tLate.size=5:=rfl
 omega
theorem cutS (c:UInt8) (s:ByteArray):Lib.splitB ⟨#[c]⟩ 0 (Lib.countB s ⟨#[c]⟩) s=cutB c s:=by
 have h:=Lib.splitB_data ⟨#[c]⟩ 0 (Lib.countB s ⟨#[c]⟩) s
 have h2:=split_cut c s.data.toList.length s.data.toList (Nat.le_refl _)
 have h3:(Lib.splitB ⟨#[c]⟩ 0 (Lib.countB s ⟨#[c]⟩) s).map bt=cutL c (bt s):=h.trans h2
 unfold cutB
 rw [← h3,List.map_map]
 refine (List.map_id _).symm.trans ?_
 congr 1
theorem cutS_len (c:UInt8) (s:ByteArray):Lib.countB s ⟨#[c]⟩+1=(cutB c s).length:=by
 have h:=Lib.splitB_all ⟨#[c]⟩ (Nat.le_refl 1) 0 _ s rfl
 rw [cutS] at h
 exact h.symm
theorem cutL_hit {c:UInt8}:∀ {p:List UInt8},cutL c (p++[c])=cutL c p++[[]]
 | []=>by simp [cutL]
 | b :: r=>by
  have ih:=cutL_hit (c:=c) (p:=r)
  have hl:=(cutL_len c r).1
  rw [List.cons_append,cutL,ih,cutL]
  split
  ·rfl
  ·cases e:cutL c r with
   | nil=>rw [e] at hl;simp at hl
   | cons q t=>rfl
theorem cutL_miss {c b:UInt8} (hb:b≠c):∀ {p:List UInt8} {done:List (List UInt8)} {l:List UInt8},cutL c p=done++[l]→cutL c (p++[b])=done++[l++[b]]
 | [],done,l,h=>by
  simp only [cutL] at h
  cases done with
  | nil=>simp at h;subst h;simp [cutL,hb]
  | cons d r=>simp at h
 | x :: r,done,l,h=>by
  rw [List.cons_append,cutL]
  rw [cutL] at h
  split
  ·rename_i hx
   rw [if_pos hx] at h
   cases done with
   | nil =>
    have:=(cutL_len c r).1
    simp at h
    rw [h.2] at this
    simp at this
   | cons d t =>
    simp at h
    rw [cutL_miss hb h.2,← h.1]
    rfl
  ·rename_i hx
   rw [if_neg hx] at h
   cases e:cutL c r with
   | nil=>have:=(cutL_len c r).1;rw [e] at this;simp at this
   | cons q t =>
    rw [e] at h
    cases done with
    | nil =>
     simp at h
     have e2:=cutL_miss hb (p:=r) (done:=[]) (l:=q) (by rw [e,h.2];rfl)
     rw [e2]
     simp [← h.1]
    | cons d t2 =>
     simp at h
     have e2:=cutL_miss hb (p:=r) (done:=q :: t2) (l:=l) (by rw [e,h.2];rfl)
     rw [e2,← h.1]
     rfl
def CutAt (c:UInt8) (s:ByteArray) (i f:Nat) (done:List ByteArray):Prop:=f≤i∧i≤s.size∧done.length≤i∧cutL c ((bt s).take i)=done.map bt++[((bt s).take i).drop f]
theorem bt_extract (s:ByteArray) (a b:Nat):bt (s.extract a b)=((bt s).take b).drop a:=by
 unfold bt
 rw [ByteArray.data_extract,Array.toList_extract,List.extract_eq_take_drop,List.drop_take]
theorem CutAt.start (c:UInt8) (s:ByteArray):CutAt c s 0 0 []:=⟨Nat.le_refl _,Nat.zero_le _,Nat.le_refl _,by simp [cutL]⟩
theorem CutAt.hit {c:UInt8} {s:ByteArray} {i f:Nat} {done:List ByteArray} (h:CutAt c s i f done) (hi:(bt s)[i]? = some c):CutAt c s (i+1) (i+1) (done++[s.extract f i]):=by
 have hl:=(List.getElem?_eq_some_iff.1 hi).1
 have hz:=bt_size s
 refine ⟨Nat.le_refl _,by omega,by rw [List.length_append,List.length_singleton];have:=h.2.2.1;omega,?_⟩
 rw [List.take_add_one,hi,Option.toList_some,cutL_hit,h.2.2.2,List.map_append,List.map_singleton,bt_extract]
 congr 1
 rw [List.drop_of_length_le (by rw [List.length_append,List.length_take,List.length_singleton];omega)]
theorem CutAt.miss {c b:UInt8} {s:ByteArray} {i f:Nat} {done:List ByteArray} (h:CutAt c s i f done) (hi:(bt s)[i]? = some b) (hb:b≠c):CutAt c s (i+1) f done:=by
 have hl:=(List.getElem?_eq_some_iff.1 hi).1
 have hz:=bt_size s
 refine ⟨by have:=h.1;omega,by omega,by have:=h.2.2.1;omega,?_⟩
 rw [List.take_add_one,hi,Option.toList_some,cutL_miss hb h.2.2.2,List.drop_append_of_le_length (by rw [List.length_take];have:=h.1;omega)]
theorem CutAt.done {c:UInt8} {s:ByteArray} {f:Nat} {done:List ByteArray} (h:CutAt c s s.size f done):done++[s.extract f s.size]=cutB c s:=by
 unfold cutB
 have e:(bt s).take s.size=bt s:=List.take_of_length_le (by rw [bt_size];exact Nat.le_refl _)
 have h3:=h.2.2.2
 rw [e] at h3
 rw [h3,List.map_append,List.map_map,List.map_singleton]
 have e2:bt (s.extract f s.size)=(bt s).drop f:=by rw [bt_extract,e]
 rw [← e2,mkB_bt]
 congr 1
 refine (List.map_id _).symm.trans ?_
 congr 1
theorem cutL_mem {c:UInt8}:∀ {s p:List UInt8},p∈cutL c s→p.length≤s.length
 | [],p,h=>by simp [cutL] at h;simp [h]
 | b :: r,p,h=>by
  rw [cutL] at h
  split at h
  ·rcases List.mem_cons.1 h with h | h
   ·simp [h]
   ·have:=cutL_mem h;simp;omega
  ·cases e:cutL c r with
   | nil=>have:=(cutL_len c r).1;rw [e] at this;simp at this
   | cons q t =>
    rw [e] at h
    rcases List.mem_cons.1 h with h | h
    ·have:=cutL_mem (c:=c) (s:=r) (p:=q) (by rw [e];exact List.mem_cons_self ..)
     rw [h];simp;exact this
    ·have:=cutL_mem (c:=c) (s:=r) (p:=p) (by rw [e];exact List.mem_cons_of_mem _ h)
     simp;omega
theorem cutB_mem {c:UInt8} {s p:ByteArray} (h:p∈cutB c s):p.size≤s.size:=by
 unfold cutB at h
 obtain ⟨q,hq,rfl⟩:=List.mem_map.1 h
 have:=cutL_mem hq
 rw [bt_size,bt_size,bt_mkB]
 exact this
theorem numFrom_step {l:List UInt8} {i:Nat} {b:UInt8} {n:Int} (hi:l[i]? = some b):numFrom n (l.drop i)=if 48≤b.toNat∧b.toNat≤57 then numFrom (n*10+((b.toNat:Nat):Int)-48) (l.drop (i+1)) else -1:=by
 obtain ⟨h1,h2⟩:=List.getElem?_eq_some_iff.1 hi
 rw [List.drop_eq_getElem_cons h1,h2,numFrom]
def RunOk (r:Run):Prop:=(0≤r.f0∧r.f0<10300)∧(0≤r.f1∧r.f1<10300)∧(0≤r.f2∧r.f2<1000000)
theorem runs_ok {cnt:Int→Int} (hc:∀ t,0≤cnt t∧cnt t<1000000):∀ (ts:List Int) (o:List Run),(∀ t∈ts,0≤t∧t<10300)→(∀ r∈o,RunOk r)→∀ r∈ts.foldl (fun o t=>stepRun o t (cnt t)) o,RunOk r
 | [],o,_,ho=>ho
 | t :: ts,o,ht,ho=>by
  rw [List.foldl_cons]
  refine runs_ok hc ts _ (fun x hx=>ht x (List.mem_cons_of_mem _ hx)) ?_
  have h0:=ht t (List.mem_cons_self ..)
  intro r hr
  unfold stepRun at hr
  split at hr
  ·rename_i hj
   have hpos:0<o.length:=by
    unfold joinB at hj
    simp only [Bool.and_eq_true,decide_eq_true_eq] at hj
    exact hj.1.1
   have hl:RunOk (lastR o):=by
    unfold lastR
    refine ho _ ?_
    rw [List.getD_eq_getElem?_getD,List.getElem?_eq_getElem (by omega)]
    exact List.getElem_mem _
   rcases List.mem_or_eq_of_mem_set hr with h | h
   ·exact ho _ h
   ·rw [h]
    exact ⟨hl.1,h0,hl.2.2⟩
  ·rcases List.mem_append.1 hr with h | h
   ·exact ho _ h
   ·rw [List.mem_singleton.1 h]
    exact ⟨h0,h0,hc t⟩
theorem runsB_small (l:List Flight) (s:List Int) (sec:ByteArray):∀ r∈runsB l s sec,RunOk r:=by
 unfold runsB
 split
 ·rename_i hs
  obtain ⟨hfl,hlen,_⟩:=slotsB_parts hs
  have h8:=(flightsB_parts hfl).1
  unfold runsN runsOf
  refine runs_ok (fun t => ?_) _ [] ?_ (by simp)
  ·unfold ldN
   have:loadTo l s sec t l.length≤1000:=by
    unfold loadTo
    refine Nat.le_trans List.countP_le_length ?_
    rw [List.length_take]
    omega
   omega
  ·intro t ht
   have:=(ticks_mem _ _ t).1 ht
   omega
 ·simp
theorem runsT_size (l:List Flight) (s:List Int) (sec:ByteArray):(runsT (runsB l s sec)).size≤600000:=by
 unfold runsT
 split
 ·decide
 ·have h:=runsTo_size (l:=runsB l s sec) (fun r hr=>by
   obtain ⟨h0,h1,h2⟩:=runsB_small l s sec r hr
   exact runT_size ⟨h0.1,by omega⟩ ⟨h1.1,by omega⟩ ⟨h2.1,by omega⟩) _ (Nat.le_refl _)
  have hl:(runsB l s sec).length≤10300:=by
   unfold runsB
   split
   ·exact runsN_len l s sec 10300
   ·exact Nat.zero_le _
  omega
theorem first_small {f:Flight} (h:flightB f=true) (sec:ByteArray):firstOf f.f1 sec f.f3≤10200:=by
 obtain ⟨hx1,b1,b2,hx2,hx3,hv⟩:=flightB_parts h
 obtain ⟨hx4,hx5,hvs,hx6⟩:=visitsB_parts hv
 clear hx1 hx2 hx3 hx4 hx5 hx6
 obtain ⟨f0,f1,f2,vs⟩:=f
 simp only at b1 b2 hvs ⊢
 clear h hv
 induction vs with
 | nil=>unfold firstOf;omega
 | cons v r ih =>
  unfold firstOf
  split
  ·have:=visitB_stay (hvs v (List.mem_cons_self ..));omega
  ·exact ih (fun u hu=>hvs u (List.mem_cons_of_mem _ hu))
theorem runS_small (c:Nat):∀ (r g:List Int) (s M:Int),(∀ x∈r,0≤x∧x≤M)→(∀ x∈g,x≤M)→0≤M→s≤runS c r g s∧runS c r g s≤s+r.length*(M+r.length)
 | [],_,s,M,_,_,_=>by simp [runS]
 | t :: r,g,s,M,hr,hg,hM=>by
  unfold runS
  obtain ⟨t0,t1⟩:=hr t (List.mem_cons_self ..)
  have hgt:t≤giveT c g t∧giveT c g t≤M+1:=by
   unfold giveT
   split
   ·rename_i hc
    have:g.getD (g.length-c) 0≤M:=by
     rw [List.getD_eq_getElem?_getD]
     cases e:g[g.length-c]? with
     | none=>exact hM
     | some y=>exact hg y (List.mem_of_getElem? e)
    omega
   ·omega
  have ih:=runS_small c r (g++[giveT c g t]) (s+giveT c g t-t) (M+1) (fun x hx=>by have:=hr x (List.mem_cons_of_mem _ hx);omega)
   (fun x hx=>by
    rcases List.mem_append.1 hx with h | h
    ·have:=hg x h;omega
    ·rw [List.mem_singleton.1 h];exact hgt.2) (by omega)
  refine ⟨by omega,?_⟩
  rw [List.length_cons]
  have e:((r.length+1:Nat):Int)*(M+((r.length+1:Nat):Int))=(r.length:Int)*(M+1+(r.length:Int))+(M+1+(r.length:Int)):=by
   have h1:((r.length+1:Nat):Int)=(r.length:Int)+1:=by omega
   rw [h1,Int.add_mul]
   rw [show M+((r.length:Int)+1)=M+1+(r.length:Int) by omega,Int.one_mul]
  have:(0:Int)≤r.length:=by omega
  omega
theorem boundP_small (caps:List Cap) (l:List Flight) (sec:ByteArray):0≤boundP caps l sec∧boundP caps l sec≤100000000:=by
 unfold boundP
 split
 ·rename_i h
  obtain ⟨h8,hfs,_⟩:=flightsB_parts h.2.1
  have hlen:(sortedTo sec l l.length).length≤1000:=by
   rw [(sortedTo_spec sec l).2.length_eq]
   have h:=List.length_filter_le (fun t=>decide (0≤t)) (l.map fun f=>firstOf f.f1 sec f.f3)
   rw [List.length_map] at h
   unfold comesOf
   omega
  have hr:∀ x∈sortedTo sec l l.length,0≤x∧x≤10200:=fun x hx=>by
   have hx:=(sortedTo_spec sec l).2.mem_iff.1 hx
   unfold comesOf at hx
   obtain ⟨h1,h2⟩:=List.mem_filter.1 hx
   obtain ⟨f,hf,rfl⟩:=List.mem_map.1 h1
   exact ⟨by simpa using h2,first_small (hfs f hf) sec⟩
  have hs:=runS_small (capOf sec caps).toNat _ [] 0 10200 hr (by simp) (by omega)
  obtain ⟨n,hn⟩:∃ n,n=(sortedTo sec l l.length).length:=⟨_,rfl⟩
  rw [← hn] at hs hlen
  refine ⟨hs.1,Int.le_trans hs.2 ?_⟩
  have h1:(n:Int)*(10200+(n:Int))≤1000*20000:=Int.mul_le_mul (by omega) (by omega) (by omega) (by omega)
  omega
 ·omega
theorem addR_code (b:Book) (f:Flight):0≤(addR b f).2∧(addR b f).2≤4:=by
 unfold addR
 split
 ·(dsimp only;omega)
 split
 ·(dsimp only;omega)
 split
 ·(dsimp only;omega)
 split <;> (dsimp only;omega)
theorem dropR_code (b:Book) (n:ByteArray):0≤(dropR b n).2∧(dropR b n).2≤3:=by
 unfold dropR
 split
 ·(dsimp only;omega)
 split <;> (dsimp only;omega)
theorem sizeBad:tBad.size≤700000:=by decide
theorem sizeOk:tOk.size≤700000:=by decide
theorem sizeNo:tNo.size≤700000:=by decide
theorem lineR_size {b:Book} (h:okB b=true) (w:List ByteArray):(lineR b w).2.size≤700000:=by
 unfold lineR
 dsimp only
 split
 ·split
  ·exact sizeBad
  ·split
   ·exact sizeOk
   ·exact sizeNo
 split
 ·split
  ·exact sizeBad
  ·split
   ·exact sizeBad
   ·have h1:=addR_code b ⟨w.getD 1 ByteArray.empty,numB (w.getD 2 ByteArray.empty),numB (w.getD 3 ByteArray.empty),by assumption⟩
    dsimp only
    rw [size_app]
    have:=decS_size h1.1 (by omega)
    have e:tCode.size=5:=rfl
    omega
 split
 ·have h1:=dropR_code b (w.getD 1 ByteArray.empty)
  dsimp only
  rw [size_app]
  have:=decS_size h1.1 (by omega)
  have e:tCode.size=5:=rfl
  omega
 split
 ·have:=slotsT_size (compB_ok h);dsimp only;omega
 split
 ·have:=slotsT_size (b:=⟨b.f0,b.f1,giveB b.f0 b.f1⟩) (giveB_fits (fitsB_parts h).1 (slotsB_parts (fitsB_parts h).2.1).1);dsimp only;omega
 split
 ·have:=slotsT_size h;dsimp only;omega
 split
 ·have:=runsT_size b.f1 b.f2 (w.getD 1 ByteArray.empty);dsimp only;omega
 split
 ·have h1:=boundP_small b.f0 b.f1 (w.getD 1 ByteArray.empty)
  have:=decS_size h1.1 (by omega)
  dsimp only
  omega
 ·exact sizeBad
theorem play_size:∀ (ls:List ByteArray) (b:Book) (o:ByteArray),okB b=true→(ls.foldl (fun p l=>((lineR p.1 (cutB 32 l)).1,p.2++(lineR p.1 (cutB 32 l)).2++⟨#[10]⟩)) (b,o)).2.size≤o.size+ls.length*700001
 | [],b,o,h=>by simp
 | l :: r,b,o,h=>by
  rw [List.foldl_cons]
  have ih:=play_size r _ (o++(lineR b (cutB 32 l)).2++⟨#[10]⟩) (lineR_ok h (cutB 32 l))
  rw [size_app,size_app] at ih
  have h1:=lineR_size h (cutB 32 l)
  have e:(⟨#[10]⟩:ByteArray).size=1:=rfl
  rw [List.length_cons,Nat.add_mul]
  dsimp only at ih ⊢
  omega
theorem playTo_size (ls:List ByteArray):(playTo ls).2.size≤ls.length*700001:=by
 have:=play_size ls emptyB ByteArray.empty okB_start
 unfold playTo
 have e:ByteArray.empty.size=0:=rfl
 omega
theorem playTo_ok (ls:List ByteArray):okB (playTo ls).1=true:=play_ok ls emptyB ByteArray.empty okB_start
end Go.Proofs.YthcpbojmalgdbaaGreatDoor.Core
