/- Merged out of this seat's own texts. -/
import Derived.WalkKit
import Derived.WalkLawsBesides
import Derived.Laws.Strings
import Derived.Sort.LotA
set_option linter.unusedVariables false
set_option linter.unusedSimpArgs false
namespace Go.Proofs.YthcpbojmalgdbaaGreatDoor
namespace Core
structure Visit where
 f0:ByteArray
 f1:Int
 f2:Int
structure Flight where
 f0:ByteArray
 f1:Int
 f2:Int
 f3:List Visit
structure Cap where
 f0:ByteArray
 f1:Int
structure Run where
 f0:Int
 f1:Int
 f2:Int
structure Book where
 f0:List Cap
 f1:List Flight
 f2:List Int
instance : Inhabited Visit := ⟨⟨ByteArray.empty, 0, 0⟩⟩
instance : Inhabited Flight := ⟨⟨ByteArray.empty, 0, 0, []⟩⟩
instance : Inhabited Cap := ⟨⟨ByteArray.empty, 0⟩⟩
def inB (n lo hi:Int):Bool:=decide (lo≤n) && decide (n≤hi)
def okByte (c:Int):Bool:=(decide (97≤c) && decide (c≤122)) || (decide (48≤c) && decide (c≤57)) || (c == 45)
def nameB (s:ByteArray):Bool:=inB s.size 1 8 && s.data.toList.all fun c=>okByte c.toNat
def lessB (a b:ByteArray):Bool:=Op.bytesLess a.toList b.toList
def visitB (v:Visit):Bool:=nameB v.f0 && inB v.f1 0 200 && inB v.f2 1 30
def linkB {α:Type} (rel:α→α→Bool):List α→Bool
 | []=>true
 | [_]=>true
 | u :: v :: r=>rel u v && linkB rel (v :: r)
def apartB (u v:Visit):Bool:=decide (u.f1+u.f2≤v.f1)
def byName (a b:Flight):Bool:=lessB a.f0 b.f0
def bySector (a b:Cap):Bool:=lessB a.f0 b.f0
def visitsB (l:List Visit):Bool:=inB l.length 1 5 && l.all visitB && linkB apartB l
def flightB (f:Flight):Bool:=nameB f.f0 && inB f.f1 0 10000 && inB f.f2 0 60 && visitsB f.f3
def flightsB (l:List Flight):Bool:=decide (l.length≤8) && l.all flightB && linkB byName l
def capB (c:Cap):Bool:=nameB c.f0 && inB c.f1 0 20
def capsB (l:List Cap):Bool:=decide (l.length≤6) && l.all capB && linkB bySector l
def slotsB (list:List Flight) (slots:List Int):Bool:=flightsB list && decide (slots.length=list.length) && slots.all fun s=>inB s (-1) 10060
def delayOf (f:Flight) (s:Int):Int:=if 0≤s then s-f.f1 else 0
def delayTo (l:List Flight) (s:List Int) (k:Nat):Int:=((l.zip s).take k).foldl (fun n p=>n+delayOf p.1 p.2) 0
def delayN (l:List Flight) (s:List Int):Int:=if slotsB l s=true then delayTo l s l.length else 0
end Core
namespace Core
def goB {α:Type} (ok:α→Bool) (rel:α→α→Bool):Option α→List α→Bool
 | _,[]=>true
 | none,x :: r=>ok x && goB ok rel (some x) r
 | some p,x :: r=>(ok x && rel p x) && goB ok rel (some x) r
def fromB {α:Type} (ok:α→Bool) (rel:α→α→Bool) (l:List α) (k:Nat):Bool:=goB ok rel (if k=0 then none else l[k-1]?) (l.drop k)
theorem goB_some {α:Type} (ok:α→Bool) (rel:α→α→Bool):∀ (l:List α) (p:α),goB ok rel (some p) l=(l.all ok && linkB rel (p :: l))
 | [],p=>rfl
 | x :: r,p=>by
  have ih:=goB_some ok rel r x
  simp only [goB,ih,List.all_cons,linkB]
  cases ok x <;> cases rel p x <;> simp
theorem goB_none {α:Type} (ok:α→Bool) (rel:α→α→Bool) (l:List α):goB ok rel none l=(l.all ok && linkB rel l):=by
 cases l with
 | nil=>rfl
 | cons x r=>simp only [goB,goB_some,List.all_cons,Bool.and_assoc]
theorem fromB_zero {α:Type} (ok:α→Bool) (rel:α→α→Bool) (l:List α):fromB ok rel l 0=(l.all ok && linkB rel l):=by
 simp [fromB,goB_none]
theorem fromB_end {α:Type} (ok:α→Bool) (rel:α→α→Bool) (l:List α) (k:Nat) (h:l.length≤k):fromB ok rel l k=true:=by
 unfold fromB
 rw [List.drop_of_length_le h]
 cases (if k=0 then none else l[k-1]?) <;> rfl
theorem fromB_first {α:Type} (ok:α→Bool) (rel:α→α→Bool) (l:List α) (x:α) (h:l[0]? = some x):fromB ok rel l 0=(ok x && fromB ok rel l 1):=by
 cases l with
 | nil=>simp at h
 | cons y r =>
  obtain rfl:y=x:=by simpa using h
  simp [fromB,goB]
theorem fromB_next {α:Type} (ok:α→Bool) (rel:α→α→Bool) (l:List α) (k:Nat) (p x:α) (hp:l[k]? = some p) (h:l[k+1]? = some x):fromB ok rel l (k+1)=((ok x && rel p x) && fromB ok rel l (k+2)):=by
 have hk:k+1<l.length:=by
  rcases Nat.lt_or_ge (k+1) l.length with h1 | h1
  ·exact h1
  ·rw [List.getElem?_eq_none h1] at h;cases h
 have e:l.drop (k+1)=x :: l.drop (k+2):=by
  rw [List.drop_eq_getElem_cons hk]
  rw [List.getElem?_eq_getElem hk] at h
  rw [Option.some.inj h]
 unfold fromB
 rw [if_neg (by omega),if_neg (by omega),e]
 simp only [Nat.add_sub_cancel,hp,goB,show k+2-1=k+1 from rfl,h]
theorem fromB_bad {α:Type} (ok:α→Bool) (rel:α→α→Bool) (l:List α) (k:Nat) (x:α) (h:l[k]? = some x) (hx:ok x=false):fromB ok rel l k=false:=by
 cases k with
 | zero=>rw [fromB_first _ _ _ _ h,hx];rfl
 | succ k =>
  have hk:k+1<l.length:=by
   rcases Nat.lt_or_ge (k+1) l.length with h1 | h1
   ·exact h1
   ·rw [List.getElem?_eq_none h1] at h;cases h
  rw [fromB_next _ _ _ _ _ _ (List.getElem?_eq_getElem (by omega:k<l.length)) h,hx];rfl
theorem fromB_bad2 {α:Type} (ok:α→Bool) (rel:α→α→Bool) (l:List α) (k:Nat) (p x:α) (hp:l[k]? = some p) (h:l[k+1]? = some x) (hx:rel p x=false):fromB ok rel l (k+1)=false:=by
 rw [fromB_next _ _ _ _ _ _ hp h,hx,Bool.and_false];rfl
theorem fromB_good0 {α:Type} (ok:α→Bool) (rel:α→α→Bool) (l:List α) (k:Nat) (x:α) (hk:k=0) (h:l[k]? = some x) (hx:ok x=true):fromB ok rel l (k+1)=fromB ok rel l k:=by
 subst hk
 rw [fromB_first _ _ _ _ h,hx];rfl
theorem fromB_good {α:Type} (ok:α→Bool) (rel:α→α→Bool) (l:List α) (k:Nat) (p x:α) (hp:l[k]? = some p) (h:l[k+1]? = some x) (hx:ok x=true) (hl:rel p x=true):fromB ok rel l (k+1+1)=fromB ok rel l (k+1):=by
 rw [fromB_next _ _ _ _ _ _ hp h,hx,hl];rfl
theorem some_lt {α:Type} {l:List α} {k:Nat} {x:α} (h:l[k]? = some x):k<l.length:=by
 rcases Nat.lt_or_ge k l.length with h1 | h1
 ·exact h1
 ·rw [List.getElem?_eq_none h1] at h;cases h
theorem flightB_parts {f:Flight} (h:flightB f=true):nameB f.f0=true∧0≤f.f1∧f.f1≤10000∧0≤f.f2∧f.f2≤60∧visitsB f.f3=true:=by
 simp only [flightB,inB,Bool.and_eq_true,decide_eq_true_eq] at h
 exact ⟨h.1.1.1,h.1.1.2.1,h.1.1.2.2,h.1.2.1,h.1.2.2,h.2⟩
theorem flightsB_parts {l:List Flight} (h:flightsB l=true):l.length≤8∧(∀ f∈l,flightB f=true)∧linkB byName l=true:=by
 simp only [flightsB,Bool.and_eq_true,decide_eq_true_eq,List.all_eq_true] at h
 exact ⟨h.1.1,h.1.2,h.2⟩
theorem slotsB_parts {l:List Flight} {s:List Int} (h:slotsB l s=true):flightsB l=true∧s.length=l.length∧∀ x∈s,-1≤x∧x≤10060:=by
 simp only [slotsB,inB,Bool.and_eq_true,decide_eq_true_eq,List.all_eq_true] at h
 exact ⟨h.1.1,h.1.2,h.2⟩
theorem slotsB_at {l:List Flight} {s:List Int} (h:slotsB l s=true) {k:Nat} {f:Flight} {x:Int} (hf:l[k]? = some f) (hx:s[k]? = some x) : -1≤x∧x≤10060∧0≤f.f1∧f.f1≤10000:=by
 obtain ⟨h1,h2,h3⟩:=slotsB_parts h
 have h4:=h3 x (List.mem_of_getElem? hx)
 have h5:=flightB_parts ((flightsB_parts h1).2.1 f (List.mem_of_getElem? hf))
 exact ⟨h4.1,h4.2,h5.2.1,h5.2.2.1⟩
theorem delayTo_zero (l:List Flight) (s:List Int):delayTo l s 0=0:=rfl
theorem delayTo_step {l:List Flight} {s:List Int} {k:Nat} {f:Flight} {x:Int} (hf:l[k]? = some f) (hx:s[k]? = some x):delayTo l s (k+1)=delayTo l s k+delayOf f x:=by
 have hz:(l.zip s)[k]? = some (f,x):=by rw [List.getElem?_zip_eq_some];exact ⟨hf,hx⟩
 unfold delayTo
 rw [List.take_add_one,hz]
 simp [List.foldl_append]
end Core
namespace Core
def coversB (slot:Int) (sec:ByteArray) (t:Int) (v:Visit):Bool:=decide (v.f0=sec) && inB t (slot+v.f1) (slot+v.f1+v.f2-1)
def hasB (slot:Int) (sec:ByteArray) (t:Int) (vs:List Visit):Bool:=vs.any (coversB slot sec t)
def cntV (slot:Int) (sec:ByteArray) (t:Int) (vs:List Visit):Nat:=vs.countP (coversB slot sec t)
def cntP (sec:ByteArray) (t:Int) (p:Flight×Int):Nat:=if 0≤p.2 then cntV p.2 sec t p.1.f3 else 0
def onP (sec:ByteArray) (t:Int) (p:Flight×Int):Bool:=decide (0≤p.2) && hasB p.2 sec t p.1.f3
def cntTo (l:List Flight) (s:List Int) (sec:ByteArray) (t:Int) (k:Nat):Nat:=(((l.zip s).take k).map (cntP sec t)).sum
def loadTo (l:List Flight) (s:List Int) (sec:ByteArray) (t:Int) (k:Nat):Nat:=((l.zip s).take k).countP (onP sec t)
theorem zip_at {l:List Flight} {s:List Int} {k:Nat} {f:Flight} {x:Int} (hf:l[k]? = some f) (hx:s[k]? = some x):(l.zip s)[k]? = some (f,x):=by
 rw [List.getElem?_zip_eq_some];exact ⟨hf,hx⟩
theorem cntTo_zero (l:List Flight) (s:List Int) (sec:ByteArray) (t:Int):cntTo l s sec t 0=0:=by simp [cntTo]
theorem loadTo_zero (l:List Flight) (s:List Int) (sec:ByteArray) (t:Int):loadTo l s sec t 0=0:=by simp [loadTo]
theorem cntTo_step {l:List Flight} {s:List Int} {k:Nat} {f:Flight} {x:Int} (hf:l[k]? = some f) (hx:s[k]? = some x) (sec:ByteArray) (t:Int):cntTo l s sec t (k+1)=cntTo l s sec t k+cntP sec t (f,x):=by
 unfold cntTo
 rw [List.take_add_one,zip_at hf hx]
 simp
theorem loadTo_step {l:List Flight} {s:List Int} {k:Nat} {f:Flight} {x:Int} (hf:l[k]? = some f) (hx:s[k]? = some x) (sec:ByteArray) (t:Int):loadTo l s sec t (k+1)=loadTo l s sec t k+(if onP sec t (f,x) then 1 else 0):=by
 unfold loadTo
 rw [List.take_add_one,zip_at hf hx]
 simp [List.countP_append,List.countP_cons]
theorem cntV_zero (x:Int) (sec:ByteArray) (t:Int) (vs:List Visit):cntV x sec t (vs.take 0)=0:=by simp [cntV]
theorem cntV_step {vs:List Visit} {k:Nat} {v:Visit} (h:vs[k]? = some v) (x:Int) (sec:ByteArray) (t:Int):cntV x sec t (vs.take (k+1))=cntV x sec t (vs.take k)+(if coversB x sec t v then 1 else 0):=by
 unfold cntV
 rw [List.take_add_one,h]
 simp [List.countP_append,List.countP_cons]
theorem apart_all:∀ (r:List Visit) (v:Visit),linkB apartB (v :: r)=true→(∀ u∈r,1≤u.f2)→∀ u∈r,v.f1+v.f2≤u.f1
 | [],_,_,_,_,hu=>by cases hu
 | y :: r,v,h,hp,u,hu=>by
  simp only [linkB,Bool.and_eq_true] at h
  have h1:v.f1+v.f2≤y.f1:=by simpa [apartB] using h.1
  rcases List.mem_cons.1 hu with rfl | hu'
  ·exact h1
  ·have h2:=apart_all r y h.2 (fun u hu=>hp u (List.mem_cons_of_mem _ hu)) u hu'
   have h3:=hp y (List.mem_cons_self ..)
   omega
theorem visitB_stay {v:Visit} (h:visitB v=true):0≤v.f1∧v.f1≤200∧1≤v.f2∧v.f2≤30:=by
 simp only [visitB,inB,Bool.and_eq_true,decide_eq_true_eq] at h
 exact ⟨h.1.2.1,h.1.2.2,h.2.1,h.2.2⟩
theorem cnt_one:∀ (vs:List Visit) (x:Int) (sec:ByteArray) (t:Int),linkB apartB vs=true→(∀ v∈vs,visitB v=true)→cntV x sec t vs=if hasB x sec t vs then 1 else 0
 | [],_,_,_,_,_=>rfl
 | v :: r,x,sec,t,h,hv=>by
  have hl:linkB apartB r=true:=by
   cases r with
   | nil=>rfl
   | cons y r=>simp only [linkB,Bool.and_eq_true] at h;exact h.2
  have ih:=cnt_one r x sec t hl (fun u hu=>hv u (List.mem_cons_of_mem _ hu))
  unfold cntV hasB at ih ⊢
  rw [List.countP_cons,List.any_cons]
  cases hc:coversB x sec t v with
  | false=>simpa using ih
  | true =>
   have hap:=apart_all r v h (fun u hu=>(visitB_stay (hv u (List.mem_cons_of_mem _ hu))).2.2.1)
   have hz:r.countP (coversB x sec t)=0:=by
    rw [List.countP_eq_zero]
    intro u hu hcu
    have h1:=hap u hu
    simp only [coversB,inB,Bool.and_eq_true,decide_eq_true_eq] at hc hcu
    omega
   rw [hz]
   simp
theorem visitsB_parts {l:List Visit} (h:visitsB l=true):1≤l.length∧l.length≤5∧(∀ v∈l,visitB v=true)∧linkB apartB l=true:=by
 simp only [visitsB,inB,Bool.and_eq_true,decide_eq_true_eq,List.all_eq_true] at h
 exact ⟨by omega,by omega,h.1.2,h.2⟩
theorem cntP_on {f:Flight} (h:flightB f=true) (x:Int) (sec:ByteArray) (t:Int):cntP sec t (f,x)=if onP sec t (f,x) then 1 else 0:=by
 have hv:=visitsB_parts (flightB_parts h).2.2.2.2.2
 unfold cntP onP
 by_cases hx:0≤x
 ·simp only [hx,if_true,decide_true,Bool.true_and]
  exact cnt_one _ _ _ _ hv.2.2.2 hv.2.2.1
 ·simp [hx]
theorem cnt_load {l:List Flight} (h:∀ f∈l,flightB f=true) (s:List Int) (sec:ByteArray) (t:Int):∀ k,cntTo l s sec t k=loadTo l s sec t k
 | 0=>by rw [cntTo_zero,loadTo_zero]
 | k+1=>by
  have ih:=cnt_load h s sec t k
  cases hz:(l.zip s)[k]? with
  | none =>
   unfold cntTo loadTo at ih ⊢
   rw [List.take_add_one,hz]
   simpa using ih
  | some p =>
   obtain ⟨f,x⟩:=p
   obtain ⟨hf,hx⟩:=List.getElem?_zip_eq_some.1 hz
   rw [cntTo_step hf hx,loadTo_step hf hx,ih,cntP_on (h f (List.mem_of_getElem? hf))]
end Core
namespace Core
def fullV (c:Cap) (l:List Flight) (s:List Int) (x:Int) (v:Visit):Bool:=decide (v.f0=c.f0) && decide (c.f1<(loadTo l s c.f0 (x+v.f1) l.length:Int))
def fullP (c:Cap) (l:List Flight) (s:List Int) (p:Flight×Int):Bool:=decide (0≤p.2) && p.1.f3.any (fullV c l s p.2)
def fullB (c:Cap) (l:List Flight) (s:List Int):Bool:=(l.zip s).any (fullP c l s)
def noneFull (caps:List Cap) (l:List Flight) (s:List Int):Bool:=caps.all fun c => !fullB c l s
def timeP (p:Flight×Int):Bool := !decide (0≤p.2) || inB p.2 p.1.f1 (p.1.f1+p.1.f2)
def timeB (l:List Flight) (s:List Int):Bool:=(l.zip s).all timeP
def fitsB (caps:List Cap) (l:List Flight) (s:List Int):Bool:=capsB caps && slotsB l s && timeB l s && noneFull caps l s
theorem covers_back {x t:Int} {sec:ByteArray} {v:Visit} (h:coversB x sec t v=true) (hn:x+v.f1≠t):coversB x sec (t-1) v=true:=by
 simp only [coversB,inB,Bool.and_eq_true,decide_eq_true_eq] at h ⊢
 exact ⟨h.1,by omega,by omega⟩
theorem countP_mono' {α:Type} {p q:α→Bool}:∀ (l:List α),(∀ x∈l,p x=true→q x=true)→l.countP p≤l.countP q
 | [],_=>Nat.le_refl _
 | a :: r,h=>by
  have ih:=countP_mono' r (fun x hx=>h x (List.mem_cons_of_mem _ hx))
  rw [List.countP_cons,List.countP_cons]
  cases hp:p a with
  | false=>simp;omega
  | true=>rw [h a (List.mem_cons_self ..) hp];simp;omega
theorem loadTo_all (l:List Flight) (s:List Int) (sec:ByteArray) (t:Int):loadTo l s sec t l.length=(l.zip s).countP (onP sec t):=by
 unfold loadTo
 rw [List.take_of_length_le (by simp;omega)]
theorem full_down {l:List Flight} {s:List Int} (hs:slotsB l s=true) (c:Cap) (hc:0≤c.f1):∀ (n:Nat) (t:Int),t<n→c.f1<(loadTo l s c.f0 t l.length:Int)→fullB c l s=true:=by
 have hfs:=(flightsB_parts (slotsB_parts hs).1).2.1
 have hpos:∀ p∈l.zip s,∀ t,onP c.f0 t p=true→0≤t:=by
  rintro ⟨f,x⟩ hp t h
  have hv:=(visitsB_parts (flightB_parts (hfs f (List.of_mem_zip hp).1)).2.2.2.2.2).2.2.1
  simp only [onP,hasB,Bool.and_eq_true,decide_eq_true_eq,List.any_eq_true] at h
  obtain ⟨h0,v,hvm,hcov⟩:=h
  have h1:=visitB_stay (hv v hvm)
  simp only [coversB,inB,Bool.and_eq_true,decide_eq_true_eq] at hcov
  omega
 intro n
 induction n with
 | zero =>
  intro t ht h
  rw [loadTo_all] at h
  have h1:0<(l.zip s).countP (onP c.f0 t):=by omega
  obtain ⟨p,hp,hon⟩:=List.countP_pos_iff.1 h1
  have:=hpos p hp t hon
  omega
 | succ n ih =>
  intro t ht h
  by_cases hstart:∃ p∈l.zip s,0≤p.2∧∃ v∈p.1.f3,v.f0=c.f0∧p.2+v.f1=t
  ·obtain ⟨p,hp,h0,v,hv,hsec,rfl⟩:=hstart
   unfold fullB
   refine List.any_eq_true.2 ⟨p,hp,?_⟩
   simp only [fullP,Bool.and_eq_true,decide_eq_true_eq,List.any_eq_true]
   exact ⟨h0,v,hv,by simp only [fullV,Bool.and_eq_true,decide_eq_true_eq];exact ⟨hsec,h⟩⟩
  ·refine ih (t-1) (by omega) ?_
   have hm:loadTo l s c.f0 t l.length≤loadTo l s c.f0 (t-1) l.length:=by
    rw [loadTo_all,loadTo_all]
    refine countP_mono' _ fun p hp hon => ?_
    simp only [onP,hasB,Bool.and_eq_true,decide_eq_true_eq,List.any_eq_true] at hon ⊢
    obtain ⟨h0,v,hv,hcov⟩:=hon
    refine ⟨h0,v,hv,covers_back hcov fun e=>hstart ⟨p,hp,h0,v,hv,?_,e⟩⟩
    simp only [coversB,Bool.and_eq_true,decide_eq_true_eq] at hcov
    exact hcov.1
   omega
theorem full_of_over {l:List Flight} {s:List Int} (hs:slotsB l s=true) (c:Cap) (hc:0≤c.f1) (t:Int) (h:c.f1<(cntTo l s c.f0 t l.length:Int)):fullB c l s=true:=by
 rw [cnt_load (flightsB_parts (slotsB_parts hs).1).2.1] at h
 exact full_down hs c hc (t.toNat+1) t (by omega) h
theorem not_full {l:List Flight} {s:List Int} (hs:slotsB l s=true) (c:Cap) (h:∀ t:Int,(cntTo l s c.f0 t l.length:Int)≤c.f1):fullB c l s=false:=by
 rw [Bool.eq_false_iff]
 intro hf
 obtain ⟨p,hp,h1⟩:=List.any_eq_true.1 hf
 simp only [fullP,Bool.and_eq_true,decide_eq_true_eq,List.any_eq_true] at h1
 obtain ⟨_,v,_,h2⟩:=h1
 simp only [fullV,Bool.and_eq_true,decide_eq_true_eq] at h2
 have:=h (p.2+v.f1)
 rw [cnt_load (flightsB_parts (slotsB_parts hs).1).2.1] at this
 omega
theorem noneFull_step {caps:List Cap} {k:Nat} {c:Cap} (h:caps[k]? = some c) (l:List Flight) (s:List Int):noneFull (caps.drop k) l s=(!fullB c l s && noneFull (caps.drop (k+1)) l s):=by
 have hk:=some_lt h
 unfold noneFull
 rw [List.drop_eq_getElem_cons hk,List.all_cons]
 rw [List.getElem?_eq_getElem hk] at h
 rw [Option.some.inj h]
theorem timeB_step {l:List Flight} {s:List Int} {k:Nat} {f:Flight} {x:Int} (hf:l[k]? = some f) (hx:s[k]? = some x):((l.zip s).drop k).all timeP=(timeP (f,x) && ((l.zip s).drop (k+1)).all timeP):=by
 have h:=zip_at hf hx
 have hk:=some_lt h
 rw [List.drop_eq_getElem_cons hk,List.all_cons]
 rw [List.getElem?_eq_getElem hk] at h
 rw [Option.some.inj h]
theorem fullB_step {c:Cap} {l:List Flight} {s:List Int} {k:Nat} {f:Flight} {x:Int} (hf:l[k]? = some f) (hx:s[k]? = some x):((l.zip s).drop k).any (fullP c l s)=(fullP c l s (f,x) || ((l.zip s).drop (k+1)).any (fullP c l s)):=by
 have h:=zip_at hf hx
 have hk:=some_lt h
 rw [List.drop_eq_getElem_cons hk,List.any_cons]
 rw [List.getElem?_eq_getElem hk] at h
 rw [Option.some.inj h]
theorem fullV_step {c:Cap} {l:List Flight} {s:List Int} {x:Int} {vs:List Visit} {k:Nat} {v:Visit} (h:vs[k]? = some v):(vs.drop k).any (fullV c l s x)=(fullV c l s x v || (vs.drop (k+1)).any (fullV c l s x)):=by
 have hk:=some_lt h
 rw [List.drop_eq_getElem_cons hk,List.any_cons]
 rw [List.getElem?_eq_getElem hk] at h
 rw [Option.some.inj h]
theorem capsB_parts {l:List Cap} (h:capsB l=true):l.length≤6∧(∀ c∈l,capB c=true)∧linkB bySector l=true:=by
 simp only [capsB,Bool.and_eq_true,decide_eq_true_eq,List.all_eq_true] at h
 exact ⟨h.1.1,h.1.2,h.2⟩
theorem capB_parts {c:Cap} (h:capB c=true):nameB c.f0=true∧0≤c.f1∧c.f1≤20:=by
 simp only [capB,inB,Bool.and_eq_true,decide_eq_true_eq] at h
 exact ⟨h.1,h.2.1,h.2.2⟩
end Core
namespace Core
def searchN (p:Int→Bool) (t:Int):Nat→Int
 | 0 => -1
 | n+1=>if p t=true then t else searchN p (t+1) n
def leastN (caps:List Cap) (l:List Flight) (s:List Int) (k:Nat) (f:Flight):Int:=searchN (fun t=>noneFull caps l (s.set k t)) f.f1 (f.f2.toNat+1)
def leastAt (caps:List Cap) (l:List Flight) (s:List Int) (k:Nat):Int:=leastN caps l s k (l.getD k default)
theorem search_hit {p:Int→Bool} {t:Int} (h:p t=true) (n:Nat):searchN p t (n+1)=t:=by simp [searchN,h]
theorem search_miss {p:Int→Bool} {t:Int} (h:p t=false) (n:Nat):searchN p t (n+1)=searchN p (t+1) n:=by simp [searchN,h]
theorem slots_set {l:List Flight} {s:List Int} (h:slotsB l s=true) (k:Nat) {t:Int} (h0 : -1≤t) (h1:t≤10060):slotsB l (s.set k t)=true:=by
 obtain ⟨a,b,c⟩:=slotsB_parts h
 simp only [slotsB,inB,Bool.and_eq_true,decide_eq_true_eq,List.all_eq_true]
 refine ⟨⟨a,by simpa using b⟩,fun x hx => ?_⟩
 rcases List.mem_or_eq_of_mem_set hx with h2 | rfl
 ·exact c x h2
 ·exact ⟨h0,h1⟩
theorem time_set {l:List Flight} {s:List Int} (h:timeB l s=true) (k:Nat) {f:Flight} (hf:l[k]? = some f) {t:Int} (h0:inB t f.f1 (f.f1+f.f2)=true):timeB l (s.set k t)=true:=by
 unfold timeB at h ⊢
 rw [List.all_eq_true] at h ⊢
 intro p hp
 obtain ⟨i,hi⟩:=List.getElem?_of_mem hp
 obtain ⟨g,x⟩:=p
 obtain ⟨h1,h2⟩:=List.getElem?_zip_eq_some.1 hi
 by_cases hik:k=i
 ·subst hik
  simp only at h1 h2
  rw [hf] at h1
  obtain rfl:=Option.some.inj h1
  have hk:k<s.length:=by
   have:=some_lt h2
   simpa using this
  rw [List.getElem?_set_self hk] at h2
  obtain rfl:=Option.some.inj h2
  simp [timeP,h0]
 ·simp only at h1 h2
  rw [List.getElem?_set_ne hik] at h2
  exact h (g,x) (List.mem_of_getElem? (zip_at h1 h2))
theorem fits_set {caps:List Cap} {l:List Flight} {s:List Int} (hc:capsB caps=true) (hs:slotsB l s=true) (ht:timeB l s=true) (k:Nat) {f:Flight} (hf:l[k]? = some f) {t:Int} (h0:f.f1≤t) (h1:t≤f.f1+f.f2):fitsB caps l (s.set k t)=noneFull caps l (s.set k t):=by
 obtain ⟨a,_,_⟩:=slotsB_parts hs
 have b:=flightB_parts ((flightsB_parts a).2.1 f (List.mem_of_getElem? hf))
 unfold fitsB
 rw [hc,slots_set hs k (by omega) (by omega),time_set ht k hf (by simp [inB];omega)]
 rfl
theorem fitsB_parts {caps:List Cap} {l:List Flight} {s:List Int} (h:fitsB caps l s=true):capsB caps=true∧slotsB l s=true∧timeB l s=true∧noneFull caps l s=true:=by
 simp only [fitsB,Bool.and_eq_true] at h
 exact ⟨h.1.1.1,h.1.1.2,h.1.2,h.2⟩
theorem leastAt_some {caps:List Cap} {l:List Flight} {s:List Int} {k:Nat} {f:Flight} (h:l[k]? = some f):leastAt caps l s k=leastN caps l s k f:=by
 unfold leastAt
 rw [List.getD_eq_getElem?_getD,h]
 rfl
end Core
namespace Core
def firstOf (p:Int) (sec:ByteArray):List Visit→Int
 | [] => -1
 | v :: r=>if v.f0=sec then p+v.f1 else firstOf p sec r
def insI (t:Int):List Int→List Int
 | []=>[t]
 | x :: r=>if x≤t then x :: insI t r else t :: x :: r
def cntI (t:Int):List Int→Nat
 | []=>0
 | x :: r=>if x≤t then cntI t r+1 else 0
theorem cntI_le (t:Int):∀ l,cntI t l≤l.length
 | []=>Nat.le_refl _
 | x :: r=>by
  have:=cntI_le t r
  unfold cntI
  split <;> simp <;> omega
theorem insI_eq (t:Int):∀ l,insI t l=l.take (cntI t l)++[t]++l.drop (cntI t l)
 | []=>rfl
 | x :: r=>by
  have ih:=insI_eq t r
  unfold insI cntI
  split
  ·rw [ih];simp
  ·simp
theorem insI_length (t:Int) (l:List Int):(insI t l).length=l.length+1:=by
 rw [insI_eq]
 have:=cntI_le t l
 simp
 omega
theorem insI_perm (t:Int) (l:List Int):(insI t l).Perm (t :: l):=by
 rw [insI_eq,List.append_assoc]
 have h:=List.perm_middle (l₁:=l.take (cntI t l)) (l₂:=l.drop (cntI t l)) (a:=t)
 rwa [List.take_append_drop] at h
theorem insI_sorted (t:Int):∀ l:List Int,l.Pairwise (· ≤ ·)→(insI t l).Pairwise (· ≤ ·)
 | [],_=>by simp [insI]
 | x :: r,h=>by
  obtain ⟨h1,h2⟩:=List.pairwise_cons.1 h
  unfold insI
  split
  ·rename_i hx
   refine List.pairwise_cons.2 ⟨fun y hy => ?_,insI_sorted t r h2⟩
   rcases List.mem_cons.1 ((insI_perm t r).mem_iff.1 hy) with rfl | hy
   ·exact hx
   ·exact h1 y hy
  ·rename_i hx
   refine List.pairwise_cons.2 ⟨fun y hy => ?_,h⟩
   rcases List.mem_cons.1 hy with rfl | hy
   ·omega
   ·have:=h1 y hy;omega
theorem cnt_while {t:Int} {l:List Int} {k:Nat} (h:k≤cntI t l) (hk:k<l.length):(l[k]'hk≤t)↔k<cntI t l:=by
 induction l generalizing k with
 | nil=>simp at hk
 | cons x r ih =>
  unfold cntI at h ⊢
  cases k with
  | zero =>
   simp only [List.getElem_cons_zero]
   split <;> simp_all
  | succ k =>
   by_cases hx:x≤t
   ·simp only [hx,if_true] at h ⊢
    simp only [List.getElem_cons_succ]
    rw [ih (by omega) (by simpa using hk)]
    omega
   ·simp [hx] at h
def comesOf (sec:ByteArray) (l:List Flight):List Int:=(l.map fun f=>firstOf f.f1 sec f.f3).filter fun t=>decide (0≤t)
def sortedTo (sec:ByteArray) (l:List Flight) (k:Nat):List Int:=(comesOf sec (l.take k)).foldl (fun a t=>insI t a) []
theorem comes_step {l:List Flight} {k:Nat} {f:Flight} (h:l[k]? = some f) (sec:ByteArray):comesOf sec (l.take (k+1))=comesOf sec (l.take k)++(if 0≤firstOf f.f1 sec f.f3 then [firstOf f.f1 sec f.f3] else []):=by
 unfold comesOf
 rw [List.take_add_one,h]
 simp only [Option.toList_some,List.map_append,List.map_cons,List.map_nil,List.filter_append]
 congr 1
 by_cases hx:0≤firstOf f.f1 sec f.f3 <;> simp [hx]
theorem sorted_step {l:List Flight} {k:Nat} {f:Flight} (h:l[k]? = some f) (sec:ByteArray):sortedTo sec l (k+1)=if 0≤firstOf f.f1 sec f.f3 then insI (firstOf f.f1 sec f.f3) (sortedTo sec l k) else sortedTo sec l k:=by
 unfold sortedTo
 rw [comes_step h]
 by_cases hx:0≤firstOf f.f1 sec f.f3
 ·simp [hx,List.foldl_append]
 ·simp [hx]
theorem foldl_ins (xs:List Int):∀ acc:List Int,acc.Pairwise (· ≤ ·)→(xs.foldl (fun a t=>insI t a) acc).Pairwise (· ≤ ·)∧(xs.foldl (fun a t=>insI t a) acc).Perm (xs++acc):=by
 induction xs with
 | nil=>intro acc h;exact ⟨h,List.Perm.refl _⟩
 | cons x r ih =>
  intro acc h
  have h1:=ih (insI x acc) (insI_sorted x acc h)
  refine ⟨h1.1,h1.2.trans ?_⟩
  have h2:=(insI_perm x acc).append_left r
  refine h2.trans ?_
  exact List.perm_middle
theorem sortedTo_spec (sec:ByteArray) (l:List Flight):(sortedTo sec l l.length).Pairwise (· ≤ ·)∧(sortedTo sec l l.length).Perm (comesOf sec l):=by
 have h:=foldl_ins (comesOf sec l) [] List.Pairwise.nil
 unfold sortedTo
 rw [List.take_length]
 exact ⟨h.1,by simpa using h.2⟩
theorem sorted_unique:∀ (a b:List Int),a.Pairwise (· ≤ ·)→b.Pairwise (· ≤ ·)→a.Perm b→a=b:=fun _ _ ha hb h=>h.eq_of_pairwise (fun _ _ _ _ h1 h2=>Int.le_antisymm h1 h2) ha hb
def giveT (c:Nat) (g:List Int) (t:Int):Int:=if c≤g.length∧t≤g.getD (g.length-c) 0 then g.getD (g.length-c) 0+1 else t
def runS (c:Nat):List Int→List Int→Int→Int
 | [],_,s=>s
 | t :: r,g,s=>runS c r (g++[giveT c g t]) (s+giveT c g t-t)
def nowT (c now let_ t:Int):Int×Int :=
 let p:=if now<t then (t,0) else (now,let_)
 if p.2=c then (p.1+1,1) else (p.1,p.2+1)
def runI (c:Int):List Int→Int→Int→Int→Int
 | [],_,_,s=>s
 | t :: r,now,let_,s=>runI c r (nowT c now let_ t).1 (nowT c now let_ t).2 (s+((nowT c now let_ t).1-t))
structure Same (c:Nat) (g:List Int) (now:Int) (n:Nat) (last:Int):Prop where
 n1:1≤n
 nc:n≤c
 ng:n≤g.length
 here:∀ i,g.length-n≤i→i<g.length→g.getD i 0=now
 less:∀ i,i<g.length-n→g.getD i 0<now
 why:now≤last∨(n+c≤g.length∧∀ i,g.length-n-c≤i→i<g.length-n→g.getD i 0=now-1)
theorem getD_app_lt {g:List Int} {u:Int} {i:Nat} (h:i<g.length):(g++[u]).getD i 0=g.getD i 0:=by
 simp [List.getD,List.getElem?_append_left h]
theorem getD_app_eq {g:List Int} {u:Int}:(g++[u]).getD g.length 0=u:=by simp [List.getD]
theorem same_step {c:Nat} {g:List Int} {now last t:Int} {n:Nat} (hc:1≤c) (h:Same c g now n last) (ht:last≤t) :
  giveT c g t=(nowT c now n t).1∧∃ m:Nat,(nowT c now n t).2=m∧Same c (g++[giveT c g t]) (nowT c now n t).1 m t:=by
 obtain ⟨n1,nc,ng,here,less,why⟩:=h
 have hle:∀ i,i<g.length→g.getD i 0≤now:=fun i hi=>by
  rcases Nat.lt_or_ge i (g.length-n) with h1 | h1
  ·exact Int.le_of_lt (less i h1)
  ·exact Int.le_of_eq (here i h1 hi)
 have hL:(g++[giveT c g t]).length=g.length+1:=by simp
 by_cases h1:now<t
 ·have hg:giveT c g t=t:=by
   unfold giveT
   rw [if_neg]
   rintro ⟨h2,h3⟩
   have:=hle (g.length-c) (by omega)
   omega
  have hn:nowT c now n t=(t,1):=by
   unfold nowT
   simp only [h1,if_true]
   rw [if_neg (by omega)]
   rfl
  rw [hn]
  refine ⟨hg,1,rfl,⟨Nat.le_refl _,hc,by rw [hL];omega,fun i h2 h3 => ?_,fun i h2 => ?_, .inl (Int.le_refl _)⟩⟩
  ·rw [hL] at h2 h3
   obtain rfl:i=g.length:=by omega
   rw [getD_app_eq,hg]
  ·rw [hL] at h2
   rw [getD_app_lt (by omega)]
   have:=hle i (by omega)
   show _<t
   omega
 ·by_cases h2:n=c
  ·have hlast:g.getD (g.length-c) 0=now:=here _ (by omega) (by omega)
   have hg:giveT c g t=now+1:=by
    unfold giveT
    rw [if_pos ⟨by omega,by omega⟩,hlast]
   have hn:nowT c now n t=(now+1,1):=by
    unfold nowT
    simp only [h1,if_false]
    rw [if_pos (by omega)]
   rw [hn]
   refine ⟨hg,1,rfl,⟨Nat.le_refl _,hc,by rw [hL];omega,fun i h3 h4 => ?_,fun i h3 => ?_, .inr ⟨by rw [hL];omega,fun i h3 h4 => ?_⟩⟩⟩
   ·rw [hL] at h3 h4
    obtain rfl:i=g.length:=by omega
    rw [getD_app_eq,hg]
   ·rw [hL] at h3
    rw [getD_app_lt (by omega)]
    have:=hle i (by omega)
    show _<now+1
    omega
   ·rw [hL] at h3 h4
    rw [getD_app_lt (by omega),here i (by omega) (by omega)]
    show now=now+1-1
    omega
  ·have hn:nowT c now n t=(now,(n:Int)+1):=by
    unfold nowT
    simp only [h1,if_false]
    rw [if_neg (by omega)]
   have hg:giveT c g t=now:=by
    unfold giveT
    rcases why with h3 | ⟨h3,h4⟩
    ·have htn:t=now:=by omega
     rw [if_neg]
     ·exact htn
     ·rintro ⟨h5,h6⟩
      have:=less (g.length-c) (by omega)
      omega
    ·have h5:=h4 (g.length-c) (by omega) (by omega)
     by_cases h6:t≤now-1
     ·rw [if_pos ⟨by omega,by omega⟩,h5];omega
     ·rw [if_neg (by rintro ⟨_,h7⟩;omega)];omega
   rw [hn]
   refine ⟨hg,n+1,by simp,⟨by omega,by omega,by rw [hL];omega,fun i h3 h4 => ?_,fun i h3 => ?_,?_⟩⟩
   ·rw [hL] at h3 h4
    rcases Nat.lt_or_ge i g.length with h5 | h5
    ·rw [getD_app_lt h5];exact here i (by omega) h5
    ·obtain rfl:i=g.length:=by omega
     rw [getD_app_eq,hg]
   ·rw [hL] at h3
    rw [getD_app_lt (by omega)]
    exact less i (by omega)
   ·rcases why with h3 | ⟨h3,h4⟩
    ·exact .inl (by show now≤t;omega)
    ·refine .inr ⟨by rw [hL];omega,fun i h5 h6 => ?_⟩
     rw [hL] at h5 h6
     rw [getD_app_lt (by omega)]
     exact h4 i (by omega) (by omega)
theorem run_same {c:Nat} (hc:1≤c):∀ (r:List Int) (g:List Int) (now:Int) (n:Nat) (last s:Int),Same c g now n last→(∀ t∈r,last≤t)→r.Pairwise (· ≤ ·)→runS c r g s=runI c r now n s
 | [],_,_,_,_,_,_,_,_=>rfl
 | t :: r,g,now,n,last,s,h,hl,hp=>by
  obtain ⟨h1,h2⟩:=List.pairwise_cons.1 hp
  obtain ⟨e1,m,e2,h3⟩:=same_step hc h (hl t (List.mem_cons_self ..))
  unfold runS runI
  rw [e2,← e1] at *
  rw [show s+giveT c g t-t=s+(giveT c g t-t) by omega]
  exact run_same hc r _ _ m t _ h3 h1 h2
theorem run_all {c:Nat} (hc:1≤c) (l:List Int) (h0:∀ t∈l,0≤t) (hp:l.Pairwise (· ≤ ·)):runS c l [] 0=runI c l (-1) 0 0:=by
 cases l with
 | nil=>rfl
 | cons t r =>
  obtain ⟨h1,h2⟩:=List.pairwise_cons.1 hp
  have ht:=h0 t (List.mem_cons_self ..)
  have hg:giveT c [] t=t:=by unfold giveT;rw [if_neg];rintro ⟨h,_⟩;simp at h;omega
  have hn:nowT c (-1) 0 t=(t,1):=by
   unfold nowT
   simp only [show (-1:Int)<t by omega,if_true]
   rw [if_neg (by omega)]
   rfl
  unfold runS runI
  rw [hg,hn]
  show runS c r [t] (0+t-t)=runI c r t 1 (0+(t-t))
  rw [show (0:Int)+t-t=0+(t-t) by omega]
  refine run_same hc r [t] t 1 t _ ⟨Nat.le_refl _,hc,by simp,fun i h3 h4 => ?_,fun i h3 => ?_, .inl (Int.le_refl _)⟩ h1 h2
  ·obtain rfl:i=0:=by simp at h4;exact h4
   rfl
  ·simp at h3
end Core
namespace Core
theorem bl_irrefl:∀ x:List UInt8,Op.bytesLess x x=false
 | []=>rfl
 | a :: x=>by
  have ih:=bl_irrefl x
  simp only [Op.bytesLess,ih,Bool.and_false,Bool.or_false,decide_eq_false_iff_not]
  exact UInt8.lt_irrefl a
theorem bl_trans:∀ x y z:List UInt8,Op.bytesLess x y=true→Op.bytesLess y z=true→Op.bytesLess x z=true
 | _,[],_,h,_=>by cases ‹List UInt8› <;> simp [Op.bytesLess] at h
 | _,_ :: _,[],_,h=>by simp [Op.bytesLess] at h
 | [],_ :: _,_ :: _,_,_=>rfl
 | a :: x,b :: y,c :: z,h1,h2=>by
  have ih:=bl_trans x y z
  simp only [Op.bytesLess,Bool.or_eq_true,Bool.and_eq_true,decide_eq_true_eq,beq_iff_eq,UInt8.lt_iff_toNat_lt] at h1 h2 ⊢
  rcases h1 with h1 | ⟨rfl,h1⟩
  ·rcases h2 with h2 | ⟨rfl,h2⟩
   ·exact .inl (by omega)
   ·exact .inl h1
  ·rcases h2 with h2 | ⟨rfl,h2⟩
   ·exact .inl h2
   ·exact .inr ⟨rfl,ih h1 h2⟩
theorem bl_total:∀ x y:List UInt8,Op.bytesLess x y=false→Op.bytesLess y x=false→x=y
 | [],[],_,_=>rfl
 | [],_ :: _,h,_=>by simp [Op.bytesLess] at h
 | _ :: _,[],_,h=>by simp [Op.bytesLess] at h
 | a :: x,b :: y,h1,h2=>by
  have ih:=bl_total x y
  simp only [Op.bytesLess,Bool.or_eq_false_iff,Bool.and_eq_false_iff,decide_eq_false_iff_not,beq_eq_false_iff_ne,UInt8.lt_iff_toNat_lt] at h1 h2
  have hab:a=b:=UInt8.toNat_inj.1 (by omega)
  subst hab
  rw [ih (by simpa using h1.2) (by simpa using h2.2)]
theorem less_irrefl (a:ByteArray):lessB a a=false:=bl_irrefl _
theorem less_trans {a b c:ByteArray} (h1:lessB a b=true) (h2:lessB b c=true):lessB a c=true:=bl_trans _ _ _ h1 h2
theorem less_ne {a b:ByteArray} (h:lessB a b=true):a≠b:=fun e=>by rw [e,less_irrefl] at h;cases h
theorem link_pairwise {α:Type} (rel:α→α→Bool) (htr:∀ a b c,rel a b=true→rel b c=true→rel a c=true):∀ l:List α,linkB rel l=true→l.Pairwise (fun a b=>rel a b=true)
 | [],_=>List.Pairwise.nil
 | [x],_=>List.pairwise_singleton _ _
 | x :: y :: r,h=>by
  simp only [linkB,Bool.and_eq_true] at h
  have ih:=link_pairwise rel htr (y :: r) h.2
  refine List.pairwise_cons.2 ⟨fun z hz => ?_,ih⟩
  rcases List.mem_cons.1 hz with rfl | hz
  ·exact h.1
  ·exact htr _ _ _ h.1 ((List.pairwise_cons.1 ih).1 z hz)
theorem sectors_rise {l:List Cap} (h:capsB l=true):l.Pairwise (fun a b=>lessB a.f0 b.f0=true):=by
 simp only [capsB,Bool.and_eq_true] at h
 exact link_pairwise bySector (fun a b c=>less_trans) l h.2
theorem names_rise {l:List Flight} (h:flightsB l=true):l.Pairwise (fun a b=>lessB a.f0 b.f0=true):=by
 simp only [flightsB,Bool.and_eq_true] at h
 exact link_pairwise byName (fun a b c=>less_trans) l h.2
def capOf (sec:ByteArray):List Cap→Int
 | [] => -1
 | c :: r=>if c.f0=sec then c.f1 else capOf sec r
def lastCap (sec:ByteArray):List Cap→Int→Int
 | [],n=>n
 | c :: r,n=>lastCap sec r (if c.f0=sec then c.f1 else n)
theorem lastCap_none {sec:ByteArray}:∀ (l:List Cap) (n:Int),(∀ c∈l,c.f0≠sec)→lastCap sec l n=n
 | [],_,_=>rfl
 | c :: r,n,h=>by
  unfold lastCap
  rw [if_neg (h c (List.mem_cons_self ..))]
  exact lastCap_none r n (fun d hd=>h d (List.mem_cons_of_mem _ hd))
theorem last_first {sec:ByteArray}:∀ (l:List Cap) (n:Int),l.Pairwise (fun a b=>lessB a.f0 b.f0=true)→lastCap sec l n=capOf sec l∨(lastCap sec l n=n∧capOf sec l = -1)
 | [],n,_ => .inr ⟨rfl,rfl⟩
 | c :: r,n,h=>by
  obtain ⟨h1,h2⟩:=List.pairwise_cons.1 h
  unfold lastCap capOf
  by_cases hc:c.f0=sec
  ·rw [if_pos hc,if_pos hc]
   exact .inl (lastCap_none r c.f1 (fun d hd e=>less_ne (h1 d hd) (by rw [hc,e])))
  ·rw [if_neg hc,if_neg hc]
   exact last_first r n h2
theorem last_cap {l:List Cap} (h:capsB l=true) (sec:ByteArray):(lastCap sec l 0<1↔capOf sec l<1)∧(1≤capOf sec l→lastCap sec l 0=capOf sec l):=by
 rcases last_first (sec:=sec) l 0 (sectors_rise h) with e | ⟨e1,e2⟩
 ·rw [e];exact ⟨Iff.rfl,fun _=>rfl⟩
 ·rw [e1,e2];exact ⟨by omega,by omega⟩
theorem lastCap_step {l:List Cap} {k:Nat} {c:Cap} (h:l[k]? = some c) (sec:ByteArray) (n:Int):lastCap sec (l.drop k) n=lastCap sec (l.drop (k+1)) (if c.f0=sec then c.f1 else n):=by
 have hk:=some_lt h
 rw [List.drop_eq_getElem_cons hk]
 rw [List.getElem?_eq_getElem hk] at h
 rw [Option.some.inj h]
 rfl
theorem runI_step {ts:List Int} {k:Nat} {t:Int} (h:ts[k]? = some t) (c now n s:Int):runI c (ts.drop k) now n s=runI c (ts.drop (k+1)) (nowT c now n t).1 (nowT c now n t).2 (s+((nowT c now n t).1-t)):=by
 have hk:=some_lt h
 rw [List.drop_eq_getElem_cons hk]
 rw [List.getElem?_eq_getElem hk] at h
 rw [Option.some.inj h]
 rfl
end Core
namespace Core
def aheadB (a b:Flight):Bool:=if a.f1=b.f1 then lessB a.f0 b.f0 else decide (a.f1<b.f1)
theorem ahead_irrefl (a:Flight):aheadB a a=false:=by simp [aheadB,less_irrefl]
theorem ahead_trans {a b c:Flight} (h1:aheadB a b=true) (h2:aheadB b c=true):aheadB a c=true:=by
 unfold aheadB at h1 h2 ⊢
 by_cases e1:a.f1=b.f1 <;> by_cases e2:b.f1=c.f1
 ·rw [if_pos e1] at h1;rw [if_pos e2] at h2;rw [if_pos (e1.trans e2)];exact less_trans h1 h2
 ·rw [if_neg e2,decide_eq_true_eq] at h2;rw [if_neg (by omega),decide_eq_true_eq];omega
 ·rw [if_neg e1,decide_eq_true_eq] at h1;rw [if_neg (by omega),decide_eq_true_eq];omega
 ·rw [if_neg e1,decide_eq_true_eq] at h1;rw [if_neg e2,decide_eq_true_eq] at h2;rw [if_neg (by omega),decide_eq_true_eq];omega
theorem notBehind_trans {a b c:Flight} (h1:aheadB b a=false) (h2:aheadB c b=false):aheadB c a=false:=by
 rw [Bool.eq_false_iff] at h1 h2 ⊢
 intro h
 unfold aheadB at h h1 h2
 by_cases e1:a.f1=b.f1 <;> by_cases e2:b.f1=c.f1
 ·rw [if_pos (by omega)] at h h1 h2
  have t1:lessB b.f0 a.f0=false:=by simpa using h1
  have t2:lessB c.f0 b.f0=false:=by simpa using h2
  by_cases e3:lessB a.f0 b.f0=true
  ·have:=less_trans h e3;rw [t2] at this;cases this
  ·have e4:a.f0.toList=b.f0.toList:=bl_total _ _ (by simpa [lessB] using e3) t1
   unfold lessB at h t2
   rw [e4,t2] at h;cases h
 ·rw [if_neg (by omega),decide_eq_true_eq] at h;rw [if_neg (by omega),Ne,decide_eq_true_eq] at h2;omega
 ·rw [if_neg (by omega),decide_eq_true_eq] at h;rw [if_neg (by omega),Ne,decide_eq_true_eq] at h1;omega
 ·rw [if_neg (by omega),Ne,decide_eq_true_eq] at h1 h2
  by_cases e3:c.f1=a.f1
  ·omega
  ·rw [if_neg e3,decide_eq_true_eq] at h;omega
def insP {α:Type} (p:α→Bool) (t:α):List α→List α
 | []=>[t]
 | x :: r=>if p x=true then x :: insP p t r else t :: x :: r
def cntQ {α:Type} (p:α→Bool):List α→Nat
 | []=>0
 | x :: r=>if p x=true then cntQ p r+1 else 0
theorem cntQ_le {α:Type} (p:α→Bool):∀ l,cntQ p l≤l.length
 | []=>Nat.le_refl _
 | x :: r=>by
  have:=cntQ_le p r
  unfold cntQ
  split <;> simp <;> omega
theorem insP_eq {α:Type} (p:α→Bool) (t:α):∀ l,insP p t l=l.take (cntQ p l)++[t]++l.drop (cntQ p l)
 | []=>rfl
 | x :: r=>by
  have ih:=insP_eq p t r
  unfold insP cntQ
  split
  ·rw [ih];simp
  ·simp
theorem insP_length {α:Type} (p:α→Bool) (t:α) (l:List α):(insP p t l).length=l.length+1:=by
 rw [insP_eq]
 have:=cntQ_le p l
 simp
 omega
theorem cntQ_while {α:Type} {p:α→Bool} {l:List α} {k:Nat} (h:k≤cntQ p l) (hk:k<l.length):(p (l[k]'hk)=true)↔k<cntQ p l:=by
 induction l generalizing k with
 | nil=>simp at hk
 | cons x r ih =>
  unfold cntQ at h ⊢
  cases k with
  | zero =>
   simp only [List.getElem_cons_zero]
   split <;> simp_all
  | succ k =>
   by_cases hx:p x=true
   ·simp only [hx,if_true] at h ⊢
    simp only [List.getElem_cons_succ]
    rw [ih (by omega) (by simpa using hk)]
    omega
   ·simp [hx] at h
def flAt (l:List Flight) (x:Int):Flight:=l.getD x.toNat default
def noLater (l:List Flight) (i x:Int):Bool := !aheadB (flAt l i) (flAt l x)
def ordTo (l:List Flight):Nat→List Int
 | 0=>[]
 | k+1=>insP (noLater l k) k (ordTo l k)
theorem ordTo_length (l:List Flight):∀ k,(ordTo l k).length=k
 | 0=>rfl
 | k+1=>by unfold ordTo;rw [insP_length,ordTo_length l k]
theorem insP_mem {α:Type} {p:α→Bool} {t x:α} {l:List α}:x∈insP p t l↔x=t∨x∈l:=by
 rw [insP_eq]
 have h:=List.take_append_drop (cntQ p l) l
 constructor
 ·intro hx
  simp only [List.append_assoc,List.mem_append,List.mem_singleton] at hx
  rcases hx with hx | hx | hx
  ·exact .inr (List.mem_of_mem_take hx)
  ·exact .inl hx
  ·exact .inr (List.mem_of_mem_drop hx)
 ·rintro (rfl | hx)
  ·simp
  ·rw [← h] at hx
   rcases List.mem_append.1 hx with hx | hx <;> simp [hx]
theorem ordTo_range (l:List Flight):∀ k,∀ x∈ordTo l k,0≤x∧x<k
 | 0,x,h=>by cases h
 | k+1,x,h=>by
  unfold ordTo at h
  rcases insP_mem.1 h with rfl | h
  ·omega
  ·have:=ordTo_range l k x h;omega
end Core
namespace Core
theorem search_spec (p:Int→Bool):∀ (n:Nat) (t:Int),(searchN p t n = -1∧∀ u,t≤u→u<t+n→p u=false)∨(t≤searchN p t n∧searchN p t n<t+n∧p (searchN p t n)=true∧∀ u,t≤u→u<searchN p t n→p u=false)
 | 0,t => .inl ⟨rfl,fun u h1 h2=>by omega⟩
 | n+1,t=>by
  cases h:p t with
  | true =>
   right
   rw [search_hit h]
   exact ⟨Int.le_refl _,by omega,h,fun u h1 h2=>by omega⟩
  | false =>
   rw [search_miss h]
   rcases search_spec p n (t+1) with ⟨h1,h2⟩ | ⟨h1,h2,h3,h4⟩
   ·exact .inl ⟨h1,fun u hu hu2=>by
     by_cases e:u=t
     ·rw [e];exact h
     ·exact h2 u (by omega) (by omega)⟩
   ·exact .inr ⟨by omega,by omega,h3,fun u hu hu2=>by
     by_cases e:u=t
     ·rw [e];exact h
     ·exact h4 u (by omega) hu2⟩
theorem set_same {α:Type} {s:List α} {k:Nat} {x:α} (h:s[k]? = some x):s.set k x=s:=by
 apply List.ext_getElem?
 intro i
 rw [List.getElem?_set]
 split
 ·rename_i e;subst e;rw [if_pos (some_lt h),h]
 ·rfl
theorem timeB_at {l:List Flight} {s:List Int} (h:timeB l s=true) {k:Nat} {f:Flight} {x:Int} (hf:l[k]? = some f) (hx:s[k]? = some x) (h0:0≤x):f.f1≤x∧x≤f.f1+f.f2:=by
 unfold timeB at h
 rw [List.all_eq_true] at h
 have:=h (f,x) (List.mem_of_getElem? (zip_at hf hx))
 simp only [timeP,inB,h0,decide_true,Bool.not_true,Bool.false_or,Bool.and_eq_true,decide_eq_true_eq] at this
 exact this
theorem least_spec {caps:List Cap} {l:List Flight} {s:List Int} (h:fitsB caps l s=true) {k:Nat} {f:Flight} {x:Int} (hf:l[k]? = some f) (hx:s[k]? = some x) :
  (leastN caps l s k f = -1∧x = -1)∨(0≤leastN caps l s k f∧f.f1≤leastN caps l s k f∧leastN caps l s k f≤f.f1+f.f2∧(x = -1∨leastN caps l s k f≤x)∧noneFull caps l (s.set k (leastN caps l s k f))=true):=by
 obtain ⟨hc,hs,ht,hn⟩:=fitsB_parts h
 have hsx:=slotsB_at hs hf hx
 have hff:=flightB_parts ((flightsB_parts (slotsB_parts hs).1).2.1 f (List.mem_of_getElem? hf))
 have e:s.set k x=s:=set_same hx
 rcases search_spec (fun t=>noneFull caps l (s.set k t)) (f.f2.toNat+1) f.f1 with ⟨h1,h2⟩ | ⟨h1,h2,h3,h4⟩
 ·left
  refine ⟨h1,?_⟩
  by_cases h0:0≤x
  ·have:=timeB_at ht hf hx h0
   have:=h2 x (by omega) (by omega)
   rw [e,hn] at this;cases this
  ·omega
 ·right
  refine ⟨by unfold leastN;omega,h1,by unfold leastN;omega,?_,h3⟩
  by_cases h0:0≤x
  ·right
   have ht2:=timeB_at ht hf hx h0
   by_cases hlt:x<leastN caps l s k f
   ·have:=h4 x (by omega) hlt
    rw [e,hn] at this;cases this
   ·omega
  ·left;omega
theorem least_fits {caps:List Cap} {l:List Flight} {s:List Int} (h:fitsB caps l s=true) {k:Nat} {f:Flight} {x:Int} (hf:l[k]? = some f) (hx:s[k]? = some x):fitsB caps l (s.set k (leastN caps l s k f))=true:=by
 obtain ⟨hc,hs,ht,hn⟩:=fitsB_parts h
 rcases least_spec h hf hx with ⟨h1,h2⟩ | ⟨h0,h1,h2,h3,h4⟩
 ·rw [h1,← h2,set_same hx];exact h
 ·rw [fits_set hc hs ht k hf h1 h2];exact h4
def lateP (p:Flight×Int):Nat:=if p.2<0 then 100 else (p.2-p.1.f1).toNat
def lateS (l:List Flight) (s:List Int):Nat:=((l.zip s).map lateP).sum
theorem zip_set {l:List Flight}:∀ {s:List Int} {k:Nat} {f:Flight} (t:Int),l[k]? = some f→l.zip (s.set k t)=(l.zip s).set k (f,t):=by
 induction l with
 | nil=>intro s k f t h;simp at h
 | cons g r ih =>
  intro s k f t h
  cases s with
  | nil=>simp
  | cons y q =>
   cases k with
   | zero=>simp at h;subst h;simp
   | succ k =>
    simp only [List.getElem?_cons_succ] at h
    simp only [List.set_cons_succ,List.zip_cons_cons,ih t h]
theorem sum_set {α:Type} (f:α→Nat):∀ {l:List α} {k:Nat} {x:α} (y:α),l[k]? = some x→((l.set k y).map f).sum+f x=(l.map f).sum+f y
 | [],k,x,y,h=>by simp at h
 | z :: r,0,x,y,h=>by simp at h;subst h;simp;omega
 | z :: r,k+1,x,y,h=>by
  simp only [List.getElem?_cons_succ] at h
  have:=sum_set f y h
  simp only [List.set_cons_succ,List.map_cons,List.sum_cons]
  omega
theorem least_late {caps:List Cap} {l:List Flight} {s:List Int} (h:fitsB caps l s=true) {k:Nat} {f:Flight} {x:Int} (hf:l[k]? = some f) (hx:s[k]? = some x) (hne:leastN caps l s k f≠x) :
  lateS l (s.set k (leastN caps l s k f))<lateS l s:=by
 have hs:=(fitsB_parts h).2.1
 have hsx:=slotsB_at hs hf hx
 have hff:=flightB_parts ((flightsB_parts (slotsB_parts hs).1).2.1 f (List.mem_of_getElem? hf))
 have h2:=sum_set lateP (f,leastN caps l s k f) (zip_at hf hx)
 unfold lateS
 rw [zip_set _ hf]
 rcases least_spec h hf hx with ⟨h1,h3⟩ | ⟨h0,h1,h3,h4,_⟩
 ·omega
 ·have e1:lateP (f,leastN caps l s k f)=(leastN caps l s k f-f.f1).toNat:=by unfold lateP;exact if_neg (by simp only;omega)
  have e2:lateP (f,leastN caps l s k f)<lateP (f,x):=by
   rw [e1]
   unfold lateP
   simp only
   split <;> omega
  omega
def stepR (caps:List Cap) (l:List Flight) (p:List Int×Bool) (i:Int):List Int×Bool :=
 (p.1.set i.toNat (leastAt caps l p.1 i.toNat),p.2 || !(leastAt caps l p.1 i.toNat == p.1.getD i.toNat 0))
def roundR (caps:List Cap) (l:List Flight) (ord:List Int) (s:List Int):List Int×Bool:=ord.foldl (stepR caps l) (s,false)
def noLaterS (s t:List Int):Prop:=s.length=t.length∧∀ (k:Nat) (x y:Int),s[k]? = some x→t[k]? = some y→x = -1∨(0≤y∧y≤x)∨y=x
theorem noLaterS_refl (s:List Int):noLaterS s s:=⟨rfl,fun k x y h1 h2 => .inr (.inr (by rw [h1] at h2;exact (Option.some.inj h2).symm))⟩
theorem noLaterS_trans {s t u:List Int} (h1:noLaterS s t) (h2:noLaterS t u):noLaterS s u:=by
 refine ⟨h1.1.trans h2.1,fun k x z hx hz => ?_⟩
 have hk:k<t.length:=by rw [← h1.1];exact some_lt hx
 have a:=h1.2 k x t[k] hx (List.getElem?_eq_getElem hk)
 have b:=h2.2 k t[k] z (List.getElem?_eq_getElem hk) hz
 omega
theorem steps_spec {caps:List Cap} {l:List Flight}:∀ (ord:List Int) (s:List Int) (b:Bool),fitsB caps l s=true→(∀ x∈ord,0≤x∧x<l.length) →
  fitsB caps l (ord.foldl (stepR caps l) (s,b)).1=true∧noLaterS s (ord.foldl (stepR caps l) (s,b)).1 ∧
  ((ord.foldl (stepR caps l) (s,b)).2=false→b=false∧(ord.foldl (stepR caps l) (s,b)).1=s∧∀ x∈ord,leastAt caps l s x.toNat=s.getD x.toNat 0) ∧
  lateS l (ord.foldl (stepR caps l) (s,b)).1≤lateS l s∧((ord.foldl (stepR caps l) (s,b)).2=true→b=true∨lateS l (ord.foldl (stepR caps l) (s,b)).1<lateS l s)
 | [],s,b,h,_=>⟨h,noLaterS_refl s,fun hb=>⟨hb,rfl,by simp⟩,Nat.le_refl _,fun hb => .inl hb⟩
 | i :: r,s,b,h,hr=>by
  obtain ⟨h0,h1⟩:=hr i (List.mem_cons_self ..)
  have hlen:=(slotsB_parts (fitsB_parts h).2.1).2.1
  have hf:l[i.toNat]? = some l[i.toNat]:=List.getElem?_eq_getElem (by omega)
  have hx:s[i.toNat]? = some s[i.toNat]:=List.getElem?_eq_getElem (by omega)
  have hg:s.getD i.toNat 0=s[i.toNat]:=by rw [List.getD_eq_getElem?_getD,hx];rfl
  have hfit:=least_fits h hf hx
  have hsp:=least_spec h hf hx
  have hla:=fun e=>least_late h hf hx e
  rw [← leastAt_some hf (caps:=caps) (s:=s)] at hfit hsp hla
  obtain ⟨a1,a2,a3,a4,a5⟩:=steps_spec r (s.set i.toNat (leastAt caps l s i.toNat)) (b || !(leastAt caps l s i.toNat == s.getD i.toNat 0)) hfit (fun x hx=>hr x (List.mem_cons_of_mem _ hx))
  rw [List.foldl_cons]
  unfold stepR
  simp only
  rw [show (fun (p:List Int×Bool) (i:Int)=>(p.1.set i.toNat (leastAt caps l p.1 i.toNat),p.2 || !(leastAt caps l p.1 i.toNat == p.1.getD i.toNat 0)))=stepR caps l from rfl]
  have hnl:noLaterS s (s.set i.toNat (leastAt caps l s i.toNat)):=by
   refine ⟨by simp,fun k x y hk hy => ?_⟩
   by_cases e:i.toNat=k
   ·subst e
    rw [List.getElem?_set_self (some_lt hk)] at hy
    obtain rfl:=Option.some.inj hy
    rw [hx] at hk
    obtain rfl:=Option.some.inj hk
    omega
   ·rw [List.getElem?_set_ne e,hk] at hy
    exact .inr (.inr (Option.some.inj hy).symm)
  refine ⟨a1,noLaterS_trans hnl a2,fun hb => ?_,?_,fun hb => ?_⟩
  ·obtain ⟨b1,b2,b3⟩:=a3 hb
   rw [Bool.or_eq_false_iff,Bool.not_eq_false',beq_iff_eq] at b1
   have e:s.set i.toNat (leastAt caps l s i.toNat)=s:=by rw [b1.2,hg];exact set_same hx
   rw [e] at b2 b3
   rw [e]
   exact ⟨b1.1,b2,fun x hx=>by rcases List.mem_cons.1 hx with rfl | hx;exact b1.2;exact b3 x hx⟩
  ·by_cases e:leastAt caps l s i.toNat=s[i.toNat]
   ·rw [e,set_same hx] at a4 ⊢;exact a4
   ·have:=hla e;omega
  ·rcases a5 hb with h2 | h2
   ·by_cases hbt:b=true
    ·exact .inl hbt
    ·right
     have hbf:b=false:=by simpa using hbt
     rw [hbf,Bool.false_or,Bool.not_eq_true',beq_eq_false_iff_ne,hg] at h2
     have:=hla h2
     omega
   ·by_cases e:leastAt caps l s i.toNat=s[i.toNat]
    ·rw [e,set_same hx] at h2 ⊢;exact .inr h2
    ·have:=hla e;exact .inr (by omega)
def compN (caps:List Cap) (l:List Flight) (ord:List Int):Nat→List Int→List Int
 | 0,s=>s
 | n+1,s=>if (roundR caps l ord s).2=true then compN caps l ord n (roundR caps l ord s).1 else (roundR caps l ord s).1
def compR (caps:List Cap) (l:List Flight) (ord:List Int) (s:List Int):List Int:=compN caps l ord (lateS l s+1) s
theorem compN_more {caps:List Cap} {l:List Flight} {ord:List Int} (hr:∀ x∈ord,0≤x∧x<l.length):∀ (n m:Nat) (s:List Int),fitsB caps l s=true→lateS l s<n→lateS l s<m→compN caps l ord n s=compN caps l ord m s
 | 0,m,s,_,h,_=>by omega
 | n+1,0,s,_,_,h=>by omega
 | n+1,m+1,s,hf,h1,h2=>by
  unfold compN
  obtain ⟨a1,_,_,a4,a5⟩:=steps_spec ord s false hf hr
  split
  ·rename_i hb
   rcases a5 hb with h3 | h3
   ·cases h3
   ·exact compN_more hr n m _ a1 (by unfold roundR;omega) (by unfold roundR;omega)
  ·rfl
theorem compR_go {caps:List Cap} {l:List Flight} {ord:List Int} {s:List Int} (hr:∀ x∈ord,0≤x∧x<l.length) (hf:fitsB caps l s=true) (hb:(roundR caps l ord s).2=true):compR caps l ord s=compR caps l ord (roundR caps l ord s).1:=by
 obtain ⟨a1,_,_,a4,a5⟩:=steps_spec ord s false hf hr
 have h3:lateS l (roundR caps l ord s).1<lateS l s:=by
  rcases a5 hb with h3 | h3
  ·cases h3
  ·exact h3
 have e:compR caps l ord s=compN caps l ord (lateS l s) (roundR caps l ord s).1:=by unfold compR;rw [compN,if_pos hb]
 rw [e]
 exact compN_more hr _ _ _ a1 h3 (Nat.lt_succ_self _)
theorem compR_stop {caps:List Cap} {l:List Flight} {ord:List Int} {s:List Int} (hr:∀ x∈ord,0≤x∧x<l.length) (hf:fitsB caps l s=true) (hb:(roundR caps l ord s).2=false):compR caps l ord s=s∧(roundR caps l ord s).1=s:=by
 obtain ⟨_,_,a3,_,_⟩:=steps_spec ord s false hf hr
 have e:compR caps l ord s=(roundR caps l ord s).1:=by unfold compR;rw [compN,if_neg (by rw [hb];decide)]
 rw [e]
 exact ⟨(a3 hb).2.1,(a3 hb).2.1⟩
theorem compN_spec {caps:List Cap} {l:List Flight} {ord:List Int} (hr:∀ x∈ord,0≤x∧x<l.length):∀ (n:Nat) (s:List Int),fitsB caps l s=true→lateS l s<n →
  fitsB caps l (compN caps l ord n s)=true∧noLaterS s (compN caps l ord n s)∧(roundR caps l ord (compN caps l ord n s)).2=false
 | 0,s,_,h=>by omega
 | n+1,s,hf,h=>by
  obtain ⟨a1,a2,a3,a4,a5⟩:=steps_spec ord s false hf hr
  unfold compN
  cases hb:(roundR caps l ord s).2 with
  | true =>
   rw [if_pos rfl]
   have h3:lateS l (roundR caps l ord s).1<n:=by
    rcases a5 hb with h3 | h3
    ·cases h3
    ·unfold roundR;omega
   obtain ⟨b1,b2,b3⟩:=compN_spec hr n _ a1 h3
   exact ⟨b1,noLaterS_trans a2 b2,b3⟩
  | false =>
   rw [if_neg (by decide)]
   have e:(roundR caps l ord s).1=s:=(a3 hb).2.1
   rw [e]
   exact ⟨hf,noLaterS_refl s,hb⟩
theorem compR_spec {caps:List Cap} {l:List Flight} {ord:List Int} {s:List Int} (hr:∀ x∈ord,0≤x∧x<l.length) (hf:fitsB caps l s=true) :
  fitsB caps l (compR caps l ord s)=true∧noLaterS s (compR caps l ord s)∧(roundR caps l ord (compR caps l ord s)).2=false:=compN_spec hr _ s hf (Nat.lt_succ_self _)
end Core
namespace Core
def giveS (caps:List Cap) (l:List Flight) (ord:List Int) (s:List Int):List Int:=ord.foldl (fun s i=>s.set i.toNat (leastAt caps l s i.toNat)) s
theorem giveS_steps (caps:List Cap) (l:List Flight):∀ (ord:List Int) (s:List Int) (b:Bool),(ord.foldl (stepR caps l) (s,b)).1=giveS caps l ord s
 | [],s,b=>rfl
 | i :: r,s,b=>by
  rw [List.foldl_cons]
  unfold giveS
  rw [List.foldl_cons]
  exact giveS_steps caps l r _ _
def noneS (n:Nat):List Int:=List.replicate n (-1)
theorem zip_none {l:List Flight} {p:Flight×Int} (h:p∈l.zip (noneS l.length)):p.2 = -1:=by
 have:=(List.of_mem_zip h).2
 exact List.eq_of_mem_replicate this
theorem fits_none {caps:List Cap} {l:List Flight} (hc:capsB caps=true) (hf:flightsB l=true):fitsB caps l (noneS l.length)=true:=by
 unfold fitsB
 rw [hc]
 have h1:slotsB l (noneS l.length)=true:=by
  unfold slotsB
  rw [hf]
  simp [noneS,inB]
 have h2:timeB l (noneS l.length)=true:=by
  unfold timeB
  rw [List.all_eq_true]
  intro p hp
  unfold timeP
  rw [zip_none hp]
  rfl
 have h3:noneFull caps l (noneS l.length)=true:=by
  unfold noneFull
  rw [List.all_eq_true]
  intro c _
  rw [Bool.not_eq_true']
  unfold fullB
  rw [List.any_eq_false]
  intro p hp
  unfold fullP
  rw [zip_none hp]
  simp
 rw [h1,h2,h3]
 rfl
def giveB (caps:List Cap) (l:List Flight):List Int:=if (capsB caps && flightsB l)=true then giveS caps l (ordTo l l.length) (noneS l.length) else []
theorem giveS_len (caps:List Cap) (l:List Flight):∀ (ord s:List Int),(giveS caps l ord s).length=s.length
 | [],s=>rfl
 | i :: r,s=>by
  unfold giveS
  rw [List.foldl_cons]
  have:=giveS_len caps l r (s.set i.toNat (leastAt caps l s i.toNat))
  unfold giveS at this
  rw [this];simp
theorem ord_in (l:List Flight):∀ x∈ordTo l l.length,0≤x∧x<l.length:=ordTo_range l l.length
theorem giveS_fits {caps:List Cap} {l:List Flight} (hc:capsB caps=true) (hf:flightsB l=true) (ord:List Int) (ho:∀ x∈ord,0≤x∧x<l.length):fitsB caps l (giveS caps l ord (noneS l.length))=true:=by
 have:=(steps_spec ord (noneS l.length) false (fits_none hc hf) ho).1
 rwa [giveS_steps] at this
theorem giveB_fits {caps:List Cap} {l:List Flight} (hc:capsB caps=true) (hf:flightsB l=true):fitsB caps l (giveB caps l)=true:=by
 unfold giveB
 rw [hc,hf,if_pos (by rfl)]
 exact giveS_fits hc hf _ (ord_in l)
theorem giveS_step (caps:List Cap) (l:List Flight) (ord s:List Int) (k:Nat) (x:Int) (h:ord[k]? = some x):giveS caps l (ord.take (k+1)) s=(giveS caps l (ord.take k) s).set x.toNat (leastAt caps l (giveS caps l (ord.take k) s) x.toNat):=by
 unfold giveS
 rw [List.take_add_one,h,Option.toList_some,List.foldl_append]
 rfl
def insAt {α:Type} (k:Nat) (x:α) (l:List α):List α:=l.take k++[x]++l.drop k
def delAt {α:Type} (k:Nat) (l:List α):List α:=l.take k++l.drop (k+1)
theorem insAt_len {α:Type} {k:Nat} (x:α) {l:List α} (h:k≤l.length):(insAt k x l).length=l.length+1:=by simp [insAt];omega
theorem insAt_mem {α:Type} {k:Nat} {x y:α} {l:List α}:y∈insAt k x l↔y=x∨y∈l:=by
 unfold insAt
 have h:=List.take_append_drop k l
 constructor
 ·intro hy
  simp only [List.append_assoc,List.mem_append,List.mem_singleton] at hy
  rcases hy with hy | hy | hy
  ·exact .inr (List.mem_of_mem_take hy)
  ·exact .inl hy
  ·exact .inr (List.mem_of_mem_drop hy)
 ·rintro (rfl | hy)
  ·simp
  ·rw [← h] at hy
   rcases List.mem_append.1 hy with hy | hy <;> simp [hy]
theorem delAt_sub {α:Type} (k:Nat) (l:List α):(delAt k l).Sublist l:=by
 unfold delAt
 have h:=List.take_append_drop k l
 conv=>rhs;rw [← h]
 refine List.Sublist.append (List.Sublist.refl _) ?_
 rw [show k+1=k+1 from rfl,← List.drop_drop]
 exact List.drop_sublist 1 _
theorem zip_take' {α β:Type} (k:Nat) (l:List α) (s:List β):(l.take k).zip (s.take k)=(l.zip s).take k:=by
 rw [List.zip_eq_zipWith,List.zip_eq_zipWith,List.take_zipWith]
theorem zip_drop' {α β:Type} (k:Nat) (l:List α) (s:List β):(l.drop k).zip (s.drop k)=(l.zip s).drop k:=by
 rw [List.zip_eq_zipWith,List.zip_eq_zipWith,List.drop_zipWith]
theorem zip_insAt {α β:Type} (k:Nat) (x:α) (y:β) (l:List α) (s:List β) (h:l.length=s.length):(insAt k x l).zip (insAt k y s)=insAt k (x,y) (l.zip s):=by
 unfold insAt
 rw [List.zip_append (by simp [h]),List.zip_append (by simp [h]),zip_take',zip_drop']
 rfl
theorem zip_delAt {α β:Type} (k:Nat) (l:List α) (s:List β) (h:l.length=s.length):(delAt k l).zip (delAt k s)=delAt k (l.zip s):=by
 unfold delAt
 rw [List.zip_append (by simp [h]),zip_take',zip_drop']
theorem link_of_pairwise {α:Type} (rel:α→α→Bool):∀ l:List α,l.Pairwise (fun a b=>rel a b=true)→linkB rel l=true
 | [],_=>rfl
 | [_],_=>rfl
 | u :: v :: r,h=>by
  rw [List.pairwise_cons] at h
  simp only [linkB,Bool.and_eq_true]
  exact ⟨h.1 v (List.mem_cons_self ..),link_of_pairwise rel _ h.2⟩
def fullZ (c:Cap) (z:List (Flight×Int)):Bool:=z.any fun p=>decide (0≤p.2) && p.1.f3.any fun v=>decide (v.f0=c.f0) && decide (c.f1<((z.countP (onP c.f0 (p.2+v.f1)):Nat):Int))
theorem fullB_Z (c:Cap) (l:List Flight) (s:List Int):fullB c l s=fullZ c (l.zip s):=by
 unfold fullB fullZ fullP fullV
 simp only [loadTo_all]
theorem noneFull_Z (caps:List Cap) (l:List Flight) (s:List Int):noneFull caps l s=caps.all fun c => !fullZ c (l.zip s):=by
 unfold noneFull;simp only [fullB_Z]
theorem fullZ_sub {c:Cap} {z z':List (Flight×Int)} (h:z'.Sublist z) (hz:fullZ c z=false):fullZ c z'=false:=by
 unfold fullZ at hz ⊢
 rw [List.any_eq_false] at hz ⊢
 intro p hp hc
 refine hz p (h.subset hp) ?_
 rw [Bool.and_eq_true,List.any_eq_true] at hc ⊢
 refine ⟨hc.1,?_⟩
 obtain ⟨v,hv,h2⟩:=hc.2
 refine ⟨v,hv,?_⟩
 rw [Bool.and_eq_true,decide_eq_true_eq,decide_eq_true_eq] at h2 ⊢
 have:=h.countP_le (p:=onP c.f0 (p.2+v.f1))
 exact ⟨h2.1,by omega⟩
theorem fullZ_ins {c:Cap} {z:List (Flight×Int)} {k:Nat} {f:Flight}:fullZ c (insAt k (f,-1) z)=fullZ c z:=by
 have hcnt:∀ t,(insAt k (f,-1) z).countP (onP c.f0 t)=z.countP (onP c.f0 t):=fun t=>by
  unfold insAt
  rw [List.countP_append,List.countP_append]
  have e:([(f,(-1:Int))]:List (Flight×Int)).countP (onP c.f0 t)=0:=by simp [onP]
  rw [e,Nat.add_zero,← List.countP_append,List.take_append_drop]
 unfold fullZ
 simp only [hcnt]
 unfold insAt
 rw [List.any_append,List.any_append]
 have e:([(f,(-1:Int))]:List (Flight×Int)).any (fun p=>decide (0≤p.2) && p.1.f3.any fun v=>decide (v.f0=c.f0) && decide (c.f1<((z.countP (onP c.f0 (p.2+v.f1)):Nat):Int)))=false:=by simp
 rw [e,Bool.or_false,← List.any_append,List.take_append_drop]
theorem timeB_Z (l:List Flight) (s:List Int):timeB l s=(l.zip s).all timeP:=rfl
theorem fits_ins {caps:List Cap} {l:List Flight} {s:List Int} (h:fitsB caps l s=true) {f:Flight} (hf:flightB f=true) (hl:l.length≤7) {k:Nat} (hk:k≤l.length) (hlo:∀ g∈l.take k,lessB g.f0 f.f0=true) (hhi:∀ g∈l.drop k,lessB f.f0 g.f0=true) :
  fitsB caps (insAt k f l) (insAt k (-1) s)=true:=by
 obtain ⟨hc,hs,ht,hn⟩:=fitsB_parts h
 obtain ⟨hfl,hlen,hsv⟩:=slotsB_parts hs
 obtain ⟨h8,hfs,hlink⟩:=flightsB_parts hfl
 have hpw:=names_rise hfl
 have hz:=zip_insAt k f (-1:Int) l s hlen.symm
 unfold fitsB
 rw [hc,noneFull_Z,timeB_Z,hz]
 have e1:(caps.all fun c => !fullZ c (insAt k (f,-1) (l.zip s)))=true:=by
  rw [noneFull_Z] at hn
  simp only [fullZ_ins]
  exact hn
 have e2:(insAt k (f,-1) (l.zip s)).all timeP=true:=by
  rw [List.all_eq_true]
  intro p hp
  rcases insAt_mem.1 hp with rfl | hp
  ·rfl
  ·exact List.all_eq_true.1 ht p hp
 have e3:slotsB (insAt k f l) (insAt k (-1) s)=true:=by
  have e4:flightsB (insAt k f l)=true:=by
   unfold flightsB
   rw [insAt_len f hk,decide_eq_true (by omega:l.length+1≤8),Bool.true_and,Bool.and_eq_true]
   refine ⟨?_,link_of_pairwise byName _ ?_⟩
   ·rw [List.all_eq_true]
    intro g hg
    rcases insAt_mem.1 hg with rfl | hg
    ·exact hf
    ·exact hfs g hg
   ·unfold insAt
    rw [List.append_assoc,List.pairwise_append]
    have hps:=hpw
    rw [← List.take_append_drop k l,List.pairwise_append] at hps
    refine ⟨hps.1,?_,fun a ha b hb => ?_⟩
    ·rw [List.singleton_append,List.pairwise_cons]
     exact ⟨fun g hg=>hhi g hg,hps.2.1⟩
    ·rcases List.mem_append.1 hb with hb | hb
     ·rw [List.mem_singleton.1 hb];exact hlo a ha
     ·exact hps.2.2 a ha b hb
  unfold slotsB
  rw [e4,insAt_len f hk,insAt_len (-1:Int) (by omega),hlen,decide_eq_true rfl]
  simp only [Bool.true_and,List.all_eq_true]
  intro x hx
  rcases insAt_mem.1 hx with rfl | hx
  ·rfl
  ·have:=hsv x hx
   simp [inB];omega
 rw [e1,e2,e3]
 rfl
theorem fits_del {caps:List Cap} {l:List Flight} {s:List Int} (h:fitsB caps l s=true) (k:Nat):fitsB caps (delAt k l) (delAt k s)=true:=by
 obtain ⟨hc,hs,ht,hn⟩:=fitsB_parts h
 obtain ⟨hfl,hlen,hsv⟩:=slotsB_parts hs
 obtain ⟨h8,hfs,hlink⟩:=flightsB_parts hfl
 have hpw:=names_rise hfl
 have hz:=zip_delAt k l s hlen.symm
 have hsub:=delAt_sub k (l.zip s)
 unfold fitsB
 rw [hc,noneFull_Z,timeB_Z,hz]
 have e1:(caps.all fun c => !fullZ c (delAt k (l.zip s)))=true:=by
  rw [noneFull_Z,List.all_eq_true] at hn
  rw [List.all_eq_true]
  intro c hc
  have:=hn c hc
  rw [Bool.not_eq_true'] at this ⊢
  exact fullZ_sub hsub this
 have e2:(delAt k (l.zip s)).all timeP=true:=by
  rw [List.all_eq_true]
  intro p hp
  exact List.all_eq_true.1 ht p (hsub.subset hp)
 have hls:(delAt k l).length≤l.length:=(delAt_sub k l).length_le
 have e3:slotsB (delAt k l) (delAt k s)=true:=by
  have e4:flightsB (delAt k l)=true:=by
   unfold flightsB
   rw [decide_eq_true (by omega:(delAt k l).length≤8),Bool.true_and,Bool.and_eq_true]
   refine ⟨?_,link_of_pairwise byName _ (hpw.sublist (delAt_sub k l))⟩
   rw [List.all_eq_true]
   intro g hg
   exact hfs g ((delAt_sub k l).subset hg)
  unfold slotsB
  rw [e4,decide_eq_true (by simp [delAt,hlen]:(delAt k s).length=(delAt k l).length)]
  simp only [Bool.true_and,List.all_eq_true]
  intro x hx
  have:=hsv x ((delAt_sub k s).subset hx)
  simp [inB];omega
 rw [e1,e2,e3]
 rfl
def emptyB:Book:=⟨[],[],[]⟩
def okB (b:Book):Bool:=fitsB b.f0 b.f1 b.f2
def atFrom (n:ByteArray):List Flight→Int→Int
 | [],_ => -1
 | f :: r,i=>if f.f0=n then i else atFrom n r (i+1)
def atB (l:List Flight) (n:ByteArray):Int:=atFrom n l 0
theorem atFrom_spec (n:ByteArray):∀ (l:List Flight) (i:Int),0≤i→(atFrom n l i = -1∧∀ f∈l,f.f0≠n)∨∃ (k:Nat) (f:Flight),l[k]? = some f∧f.f0=n∧atFrom n l i=i+(k:Nat)∧∀ j,j<k→∀ g,l[j]? = some g→g.f0≠n
 | [],i,_ => .inl ⟨rfl,by simp⟩
 | f :: r,i,hi=>by
  unfold atFrom
  by_cases h:f.f0=n
  ·rw [if_pos h]
   exact .inr ⟨0,f,rfl,h,by simp,fun j hj=>by omega⟩
  ·rw [if_neg h]
   rcases atFrom_spec n r (i+1) (by omega) with ⟨h1,h2⟩ | ⟨k,g,h1,h2,h3,h4⟩
   ·exact .inl ⟨h1,fun g hg=>by rcases List.mem_cons.1 hg with rfl | hg;exact h;exact h2 g hg⟩
   ·refine .inr ⟨k+1,g,by simpa using h1,h2,by rw [h3];omega,fun j hj g' hg' => ?_⟩
    cases j with
    | zero=>simp at hg';subst hg';exact h
    | succ j=>exact h4 j (by omega) g' (by simpa using hg')
theorem atB_spec (l:List Flight) (n:ByteArray):(atB l n = -1∧∀ f∈l,f.f0≠n)∨∃ (k:Nat) (f:Flight),l[k]? = some f∧f.f0=n∧atB l n=(k:Int)∧∀ j,j<k→∀ g,l[j]? = some g→g.f0≠n:=by
 rcases atFrom_spec n l 0 (Int.le_refl _) with h | ⟨k,f,h1,h2,h3,h4⟩
 ·exact .inl h
 ·exact .inr ⟨k,f,h1,h2,by unfold atB;rw [h3];omega,h4⟩
def placeB (l:List Flight) (n:ByteArray):Nat:=cntQ (fun g=>lessB g.f0 n) l
theorem placeB_le (l:List Flight) (n:ByteArray):placeB l n≤l.length:=cntQ_le _ _
theorem cntQ_take {α:Type} (p:α→Bool):∀ l:List α,∀ x∈l.take (cntQ p l),p x=true
 | [],x,h=>by simp at h
 | y :: r,x,h=>by
  unfold cntQ at h
  split at h
  ·rename_i hy
   rw [List.take_succ_cons] at h
   rcases List.mem_cons.1 h with rfl | h
   ·exact hy
   ·exact cntQ_take p r x h
  ·simp at h
theorem cntQ_drop {α:Type} (p:α→Bool):∀ l:List α,∀ x r,l.drop (cntQ p l)=x :: r→p x=false
 | [],x,r,h=>by simp at h
 | y :: q,x,r,h=>by
  unfold cntQ at h
  split at h
  ·rw [List.drop_succ_cons] at h
   exact cntQ_drop p q x r h
  ·rename_i hy
   simp at h
   rw [← h.1]
   simpa using hy
theorem place_lo {l:List Flight} {n:ByteArray}:∀ g∈l.take (placeB l n),lessB g.f0 n=true:=cntQ_take _ l
theorem bytes_ext {a b:ByteArray} (h:a.toList=b.toList):a=b:=by
 rw [ByteArray.toList_eq,ByteArray.toList_eq] at h
 cases a;cases b
 congr 1
 exact Array.toList_inj.1 h
theorem place_hi {l:List Flight} (hf:l.Pairwise (fun a b=>lessB a.f0 b.f0=true)) {n:ByteArray} (hn:∀ f∈l,f.f0≠n):∀ g∈l.drop (placeB l n),lessB n g.f0=true:=by
 intro g hg
 cases hd:l.drop (placeB l n) with
 | nil=>rw [hd] at hg;cases hg
 | cons x r =>
  have hx:lessB x.f0 n=false:=cntQ_drop (fun g:Flight=>lessB g.f0 n) l x r hd
  have hxm:x∈l:=List.mem_of_mem_drop (by rw [hd];exact List.mem_cons_self ..)
  have h1:lessB n x.f0=true:=by
   cases e:lessB n x.f0 with
   | true=>rfl
   | false=>exact absurd (bytes_ext (bl_total _ _ hx e)) (hn x hxm)
  rw [hd] at hg
  rcases List.mem_cons.1 hg with rfl | hg
  ·exact h1
  ·have:=hf.sublist (List.drop_sublist (placeB l n) l)
   rw [hd,List.pairwise_cons] at this
   exact less_trans h1 (this.1 g hg)
def addN (b:Book) (f:Flight):Book :=
 ⟨b.f0,insAt (placeB b.f1 f.f0) f b.f1,(insAt (placeB b.f1 f.f0) (-1) b.f2).set (placeB b.f1 f.f0) (leastAt b.f0 (insAt (placeB b.f1 f.f0) f b.f1) (insAt (placeB b.f1 f.f0) (-1) b.f2) (placeB b.f1 f.f0))⟩
def addR (b:Book) (f:Flight):Book×Int :=
 if okB b=false then (emptyB,1) else if flightB f=false then (b,2) else if 0≤atB b.f1 f.f0 then (b,3) else if 8≤b.f1.length then (b,4) else (addN b f,0)
def compB (b:Book):Book:=⟨b.f0,b.f1,compR b.f0 b.f1 (ordTo b.f1 b.f1.length) b.f2⟩
def dropN (b:Book) (k:Nat):Book:=compB ⟨b.f0,delAt k b.f1,delAt k b.f2⟩
def dropR (b:Book) (n:ByteArray):Book×Int :=
 if okB b=false then (emptyB,1) else if atB b.f1 n<0 then (b,3) else (dropN b (atB b.f1 n).toNat,0)
def compressR (b:Book):Book:=if okB b=false then emptyB else compB b
theorem ins_fits {b:Book} (h:okB b=true) {f:Flight} (hf:flightB f=true) (ha:¬ 0≤atB b.f1 f.f0) (hl:¬ 8≤b.f1.length):fitsB b.f0 (insAt (placeB b.f1 f.f0) f b.f1) (insAt (placeB b.f1 f.f0) (-1) b.f2)=true:=by
 have hn:∀ g∈b.f1,g.f0≠f.f0:=by
  rcases atB_spec b.f1 f.f0 with ⟨_,h2⟩ | ⟨k,g,_,_,h3,_⟩
  ·exact h2
  ·omega
 exact fits_ins h hf (by omega) (placeB_le _ _) place_lo (place_hi (names_rise (slotsB_parts (fitsB_parts h).2.1).1) hn)
theorem addN_ok {b:Book} (h:okB b=true) {f:Flight} (hf:flightB f=true) (ha:¬ 0≤atB b.f1 f.f0) (hl:¬ 8≤b.f1.length):okB (addN b f)=true:=by
 have h1:=ins_fits h hf ha hl
 have hlen:=(slotsB_parts (fitsB_parts h1).2.1).2.1
 have hk:placeB b.f1 f.f0<(insAt (placeB b.f1 f.f0) f b.f1).length:=by rw [insAt_len f (placeB_le _ _)];have:=placeB_le b.f1 f.f0;omega
 have hg:(insAt (placeB b.f1 f.f0) f b.f1)[placeB b.f1 f.f0]? = some (insAt (placeB b.f1 f.f0) f b.f1)[placeB b.f1 f.f0]:=List.getElem?_eq_getElem hk
 have hx:(insAt (placeB b.f1 f.f0) (-1:Int) b.f2)[placeB b.f1 f.f0]? = some (insAt (placeB b.f1 f.f0) (-1:Int) b.f2)[placeB b.f1 f.f0]:=List.getElem?_eq_getElem (by omega)
 have:=least_fits h1 hg hx
 rwa [← leastAt_some hg (caps:=b.f0) (s:=insAt (placeB b.f1 f.f0) (-1) b.f2)] at this
theorem compB_ok {b:Book} (h:okB b=true):okB (compB b)=true:=(compR_spec (ord_in b.f1) h).1
theorem dropN_ok {b:Book} (h:okB b=true) (k:Nat):okB (dropN b k)=true:=compB_ok (b:=⟨b.f0,delAt k b.f1,delAt k b.f2⟩) (fits_del h k)
end Core
namespace Core
def lastR (o:List Run):Run:=o.getD (o.length-1) ⟨0,0,0⟩
def joinB (o:List Run) (t n:Int):Bool:=decide (0<o.length) && decide ((lastR o).f1=t-1) && decide ((lastR o).f2=n)
def stepRun (o:List Run) (t n:Int):List Run:=if joinB o t n=true then o.set (o.length-1) ⟨(lastR o).f0,t,(lastR o).f2⟩ else o++[⟨t,t,n⟩]
def runsOf (cnt:Int→Int) (ts:List Int):List Run:=ts.foldl (fun o t=>stepRun o t (cnt t)) []
theorem stepRun_len (o:List Run) (t n:Int):(stepRun o t n).length≤o.length+1:=by
 unfold stepRun
 split <;> simp
theorem runsOf_snoc (cnt:Int→Int) (ts:List Int) (t:Int):runsOf cnt (ts++[t])=stepRun (runsOf cnt ts) t (cnt t):=by unfold runsOf;rw [List.foldl_append];rfl
theorem runsOf_len (cnt:Int→Int) (ts:List Int):(runsOf cnt ts).length≤ts.length:=by
 have:∀ (ts:List Int) (o:List Run),(ts.foldl (fun o t=>stepRun o t (cnt t)) o).length≤o.length+ts.length:=by
  intro ts
  induction ts with
  | nil=>intro o;simp
  | cons t r ih =>
   intro o
   rw [List.foldl_cons]
   have h1:=ih (stepRun o t (cnt t))
   have h2:=stepRun_len o t (cnt t)
   rw [List.length_cons];omega
 have:=this ts []
 unfold runsOf
 simpa using this
def ticksTo (p:Int→Bool):Nat→List Int
 | 0=>[]
 | n+1=>if p n=true then ticksTo p n++[(n:Int)] else ticksTo p n
theorem ticks_mem (p:Int→Bool):∀ (n:Nat) (t:Int),t∈ticksTo p n↔0≤t∧t<n∧p t=true
 | 0,t=>by simp [ticksTo];omega
 | n+1,t=>by
  unfold ticksTo
  have ih:=ticks_mem p n t
  split
  ·rename_i hp
   rw [List.mem_append,ih,List.mem_singleton]
   constructor
   ·rintro (h | rfl)
    ·exact ⟨h.1,by omega,h.2.2⟩
    ·exact ⟨by omega,by omega,hp⟩
   ·rintro ⟨h0,h1,h2⟩
    by_cases e:t=n
    ·exact .inr e
    ·exact .inl ⟨h0,by omega,h2⟩
  ·rename_i hp
   rw [ih]
   constructor
   ·rintro ⟨h0,h1,h2⟩;exact ⟨h0,by omega,h2⟩
   ·rintro ⟨h0,h1,h2⟩
    refine ⟨h0,?_,h2⟩
    by_cases e:t=n
    ·subst e;exact absurd h2 hp
    ·omega
theorem ticks_sorted (p:Int→Bool):∀ n,(ticksTo p n).Pairwise (· < ·)
 | 0=>List.Pairwise.nil
 | n+1=>by
  unfold ticksTo
  split
  ·rw [List.pairwise_append]
   refine ⟨ticks_sorted p n,List.pairwise_singleton _ _,fun a ha b hb => ?_⟩
   rw [List.mem_singleton] at hb
   rw [hb]
   exact ((ticks_mem p n a).1 ha).2.1
  ·exact ticks_sorted p n
theorem ticks_len (p:Int→Bool):∀ n,(ticksTo p n).length≤n
 | 0=>Nat.le_refl _
 | n+1=>by
  unfold ticksTo
  have:=ticks_len p n
  split
  ·rw [List.length_append,List.length_singleton];omega
  ·omega
theorem sorted_ext:∀ a b:List Int,a.Pairwise (· < ·)→b.Pairwise (· < ·)→(∀ x,x∈a↔x∈b)→a=b
 | [],[],_,_,_=>rfl
 | [],y :: b,_,_,h=>by have:=(h y).2 (List.mem_cons_self ..);simp at this
 | x :: a,[],_,_,h=>by have:=(h x).1 (List.mem_cons_self ..);simp at this
 | x :: a,y :: b,ha,hb,h=>by
  rw [List.pairwise_cons] at ha hb
  have e:x=y:=by
   rcases List.mem_cons.1 ((h x).1 (List.mem_cons_self ..)) with h1 | h1
   ·exact h1
   ·rcases List.mem_cons.1 ((h y).2 (List.mem_cons_self ..)) with h2 | h2
    ·exact h2.symm
    ·have:=ha.1 y h2;have:=hb.1 x h1;omega
  subst e
  rw [sorted_ext a b ha.2 hb.2 (fun z=>⟨fun hz => ?_,fun hz => ?_⟩)]
  ·rcases List.mem_cons.1 ((h z).1 (List.mem_cons_of_mem _ hz)) with h1 | h1
   ·have:=ha.1 z hz;omega
   ·exact h1
  ·rcases List.mem_cons.1 ((h z).2 (List.mem_cons_of_mem _ hz)) with h1 | h1
   ·have:=hb.1 z hz;omega
   ·exact h1
theorem ticks_empty {p:Int→Bool} {n:Nat} (h:∀ t:Int,t<n→p t=false):ticksTo p n=[]:=by
 cases e:ticksTo p n with
 | nil=>rfl
 | cons a r =>
  have:a∈ticksTo p n:=by rw [e];exact List.mem_cons_self ..
  obtain ⟨_,h1,h2⟩:=(ticks_mem p n a).1 this
  rw [h a h1] at h2;cases h2
theorem ticks_stay {p:Int→Bool} {n m:Nat} (h:∀ t:Int,n≤t→p t=false) (hm:∀ t:Int,m≤t→p t=false):ticksTo p n=ticksTo p m:=by
 refine sorted_ext _ _ (ticks_sorted p n) (ticks_sorted p m) (fun x => ?_)
 rw [ticks_mem,ticks_mem]
 constructor
 ·rintro ⟨h0,h1,h2⟩
  refine ⟨h0,?_,h2⟩
  rcases Int.lt_or_le x m with h3 | h3
  ·exact h3
  ·rw [hm x h3] at h2;cases h2
 ·rintro ⟨h0,h1,h2⟩
  refine ⟨h0,?_,h2⟩
  rcases Int.lt_or_le x n with h3 | h3
  ·exact h3
  ·rw [h x h3] at h2;cases h2
def ldN (l:List Flight) (s:List Int) (sec:ByteArray) (t:Int):Int:=(loadTo l s sec t l.length:Int)
def someB (l:List Flight) (s:List Int) (sec:ByteArray) (t:Int):Bool:=decide (ldN l s sec t≠0)
def runsN (l:List Flight) (s:List Int) (sec:ByteArray) (n:Nat):List Run:=runsOf (ldN l s sec) (ticksTo (someB l s sec) n)
def runsB (l:List Flight) (s:List Int) (sec:ByteArray):List Run:=if slotsB l s=true then runsN l s sec 10300 else []
theorem runsN_step (l:List Flight) (s:List Int) (sec:ByteArray) (n:Nat):runsN l s sec (n+1)=if ldN l s sec n=0 then runsN l s sec n else stepRun (runsN l s sec n) n (ldN l s sec n):=by
 unfold runsN
 rw [ticksTo]
 by_cases h:ldN l s sec n=0
 ·rw [if_pos h,if_neg (by simp [someB,h])]
 ·rw [if_neg h,if_pos (by simp [someB,h]),runsOf_snoc]
theorem runsN_len (l:List Flight) (s:List Int) (sec:ByteArray) (n:Nat):(runsN l s sec n).length≤n:=Nat.le_trans (runsOf_len _ _) (ticks_len _ _)
theorem runsB_len (l:List Flight) (s:List Int) (sec:ByteArray):(runsB l s sec).length≤10000000:=by
 unfold runsB
 split
 ·have:=runsN_len l s sec 10300;omega
 ·simp
def EndsOk (l:List Flight) (s:List Int) (lo hi:Int):Prop:=0≤lo∧lo≤10290 ∧ -1≤hi∧hi≤10290∧∀ p∈l.zip s,0≤p.2→lo≤p.2∧∀ v∈p.1.f3,p.2+v.f1+v.f2≤hi
theorem last_max:∀ vs:List Visit,linkB apartB vs=true→(∀ v∈vs,0≤v.f1∧1≤v.f2)→∀ u,vs[vs.length-1]? = some u→∀ v∈vs,v.f1+v.f2≤u.f1+u.f2
 | [],_,_,_,_,_,hv=>by cases hv
 | [a],_,_,u,hu,v,hv=>by
  rw [List.mem_singleton] at hv
  simp at hu
  rw [hv,hu];exact Int.le_refl _
 | a :: b :: r,hl,h0,u,hu,v,hv=>by
  have hu':(b :: r)[(b :: r).length-1]? = some u:=by
   simp only [List.length_cons] at hu ⊢
   rw [show r.length+1+1-1=(r.length+1-1)+1 by omega,List.getElem?_cons_succ] at hu
   exact hu
  have hl':linkB apartB (b :: r)=true:=by
   simp only [linkB,Bool.and_eq_true] at hl;exact hl.2
  rcases List.mem_cons.1 hv with rfl | hv
  ·have hm:u∈b :: r:=List.mem_of_getElem? hu'
   have:=apart_all (b :: r) v hl (fun w hw=>(h0 w (List.mem_cons_of_mem _ hw)).2) u hm
   have:=(h0 u (List.mem_cons_of_mem _ hm)).2
   omega
  ·exact last_max (b :: r) hl' (fun w hw=>h0 w (List.mem_cons_of_mem _ hw)) u hu' v hv
theorem someB_in {l:List Flight} {s:List Int} {sec:ByteArray} {t lo hi:Int} (hs:slotsB l s=true) (he:EndsOk l s lo hi) (h:someB l s sec t=true):lo≤t∧t<hi:=by
 unfold someB ldN at h
 rw [decide_eq_true_eq,loadTo_all] at h
 have hpos:0<(l.zip s).countP (onP sec t):=by omega
 rw [List.countP_pos_iff] at hpos
 obtain ⟨p,hp,hon⟩:=hpos
 unfold onP hasB at hon
 rw [Bool.and_eq_true,decide_eq_true_eq,List.any_eq_true] at hon
 obtain ⟨h0,v,hv,hc⟩:=hon
 obtain ⟨e1,e2⟩:=he.2.2.2.2 p hp h0
 have e3:=e2 v hv
 unfold coversB inB at hc
 simp only [Bool.and_eq_true,decide_eq_true_eq] at hc
 obtain ⟨hfl,hlen,_⟩:=slotsB_parts hs
 have hf:=(flightsB_parts hfl).2.1 p.1 (List.of_mem_zip hp).1
 have hb:=visitB_stay ((visitsB_parts (flightB_parts hf).2.2.2.2.2).2.2.1 v hv)
 omega
theorem someB_out {l:List Flight} {s:List Int} {sec:ByteArray} {t lo hi:Int} (hs:slotsB l s=true) (he:EndsOk l s lo hi) (h:t<lo∨hi≤t):someB l s sec t=false:=by
 cases e:someB l s sec t with
 | false=>rfl
 | true=>have:=someB_in hs he e;omega
theorem runsN_first {l:List Flight} {s:List Int} {sec:ByteArray} {lo hi:Int} (hs:slotsB l s=true) (he:EndsOk l s lo hi):runsN l s sec lo.toNat=[]:=by
 unfold runsN
 rw [ticks_empty (fun t ht=>someB_out hs he (.inl (by have:=he.1;omega)))]
 rfl
theorem runsN_last {l:List Flight} {s:List Int} {sec:ByteArray} {lo hi:Int} (hs:slotsB l s=true) (he:EndsOk l s lo hi) (n:Nat) (hn:hi<n):runsN l s sec n=runsB l s sec:=by
 unfold runsB
 rw [if_pos hs]
 unfold runsN
 rw [ticks_stay (n:=n) (m:=10300) (fun t ht=>someB_out hs he (.inr (by omega))) (fun t ht=>someB_out hs he (.inr (by have:=he.2.2.2.1;omega)))]
end Core
namespace Core
open Go.Sort
def lB (l:List Flight) (x y:Int):Bool:=aheadB (flAt l x) (flAt l y)
def tB (l:List Flight) (x y:Int):Bool:=lB l x y || (!lB l y x && decide (x<y))
theorem lB_swo (l:List Flight):SWO (lB l):=⟨fun x=>ahead_irrefl _,fun x y z h1 h2=>ahead_trans h1 h2,fun x y z h1 h2=>notBehind_trans h2 h1⟩
theorem tB_agree {l:List Flight} {x y:Int} (h:y≤x):tB l x y=lB l x y:=by
 unfold tB;rw [decide_eq_false (by omega)];simp
theorem tB_irrefl (l:List Flight) (x:Int):tB l x x=false:=by rw [tB_agree (Int.le_refl x)];exact (lB_swo l).irrefl x
theorem tB_tri (l:List Flight) (x y:Int) (h:tB l x y=false):x=y∨tB l y x=true:=by
 unfold tB at h ⊢
 cases h1:lB l x y with
 | true=>rw [h1] at h;cases h
 | false =>
  cases h2:lB l y x with
  | true=>right;rfl
  | false =>
   rw [h1,h2] at h
   have h3:¬ x<y:=by simpa using h
   by_cases e:x=y
   ·exact .inl e
   ·right;simp;omega
theorem tB_trans (l:List Flight) (x y z:Int) (h1:tB l x y=true) (h2:tB l y z=true):tB l x z=true:=by
 have S:=lB_swo l
 unfold tB at h1 h2 ⊢
 cases a:lB l x z with
 | true=>rfl
 | false =>
  cases b:lB l x y with
  | true =>
   cases c:lB l y z with
   | true=>rw [S.trans _ _ _ b c] at a;cases a
   | false =>
    rw [c] at h2
    have h3:lB l z y=false:=by
     cases d:lB l z y with
     | false=>rfl
     | true=>rw [d] at h2;cases h2
    rw [S.ntrans _ _ _ a h3] at b;cases b
  | false =>
   rw [b] at h1
   have h3:lB l y x=false:=by
    cases d:lB l y x with
    | false=>rfl
    | true=>rw [d] at h1;cases h1
   rw [h3] at h1
   have hxy:x<y:=by simpa using h1
   cases c:lB l y z with
   | true=>rw [S.ntrans _ _ _ h3 a] at c;cases c
   | false =>
    rw [c] at h2
    have h4:lB l z y=false:=by
     cases d:lB l z y with
     | false=>rfl
     | true=>rw [d] at h2;cases h2
    rw [h4] at h2
    have hyz:y<z:=by simpa using h2
    rw [S.ntrans _ _ _ h4 h3]
    simp;omega
theorem tB_asymm {l:List Flight} {x y:Int} (h:tB l x y=true):tB l y x=false:=by
 cases e:tB l y x with
 | false=>rfl
 | true=>have:=tB_trans l x y x h e;rw [tB_irrefl] at this;cases this
theorem tB_swo (l:List Flight):SWO (tB l):=by
 refine ⟨tB_irrefl l,tB_trans l,fun x y z h1 h2 => ?_⟩
 rcases tB_tri l x y h1 with rfl | h3
 ·exact h2
 ·rcases tB_tri l y z h2 with rfl | h4
  ·exact h1
  ·exact tB_asymm (tB_trans l z y x h4 h3)
theorem insInner_agree {l:List Flight} {a:Nat}:∀ (j:Nat) (d:Array Int),j<d.size→(∀ p,a≤p→p<j→d[p]! ≤ d[j]!)→insInner (lB l) a j d=insInner (tB l) a j d
 | 0,d,_,_=>rfl
 | j+1,d,hj,h=>by
  unfold insInner
  by_cases ha:j+1 > a
  ·have e:lB l d[j+1]! d[j]! = tB l d[j+1]! d[j]! := (tB_agree (h j (by omega) (by omega))).symm
   rw [e]
   split
   ·refine insInner_agree j _ (by rw [swp_size];omega) fun p hp hpj => ?_
    have g:=swp_get d hj (show j<d.size by omega)
    rw [g,g,if_neg (by omega),if_neg (by omega),if_pos rfl]
    exact h p hp (by omega)
   ·rfl
  ·rw [decide_eq_false ha];rfl
theorem insOuter_agree {l:List Flight} {a b:Nat}:∀ (n i:Nat) (d:Array Int),b-i=n→a<i→b≤d.size→(∀ p k,a≤p→p<k→i≤k→k<b→d[p]! < d[k]!)→SortedIn (tB l) a i d →
  insOuter (lB l) a b i d=insOuter (tB l) a b i d
 | 0,i,d,hn,_,_,_,_=>by rw [insOuter.eq_def (lB l),insOuter.eq_def (tB l),if_neg (by omega),if_neg (by omega)]
 | n+1,i,d,hn,hai,hb,h,hs=>by
  have hlt:i<b:=by omega
  rw [insOuter.eq_def (lB l),insOuter.eq_def (tB l),if_pos hlt,if_pos hlt,insInner_agree i d (by omega) (fun p hp hpi=>Int.le_of_lt (h p i hp hpi (Nat.le_refl _) hlt))]
  have h1:=insInner_spec (tB_swo l) swp_permIn permIn_refl permIn_trans a (i+1) i (by omega) i d (by omega) (Nat.le_refl _) (by omega) ⟨fun p q hap hpq hqi _ hq=>hs p q hap hpq (by omega),fun q h1 h2=>by omega⟩
  refine insOuter_agree n (i+1) _ (by omega) (by omega) (by rw [h1.1.1];exact hb) (fun p k hp hpk hik hkb => ?_) h1.2
  rw [h1.1.2.1 k (by omega)]
  by_cases hpi:p<i+1
  ·exact permIn_all _ _ a (i+1) (fun x=>x<d[k]!) (by omega) h1.1 (fun q hq hqi=>h q k hq (by omega) (by omega) hkb) p hp hpi
  ·rw [h1.1.2.1 p (by omega)]
   exact h p k hp hpk (by omega) hkb
theorem insertion_agree {l:List Flight} (d:Array Int) (a b:Nat) (hb:b≤d.size) (h:∀ p k,a≤p→p<k→k<b→d[p]! < d[k]!):Sort.insertionSort (lB l) d a b=Sort.insertionSort (tB l) d a b:=by
 unfold Sort.insertionSort
 exact insOuter_agree _ (a+1) d rfl (by omega) hb (fun p k hp hpk _ hk=>h p k hp hpk hk) (fun i j h1 h2 h3=>by omega)
theorem insP_rises {l:List Flight} {k:Nat} {xs:List Int} (hp:xs.Pairwise (fun x y=>tB l x y=true)) (hr:∀ x∈xs,x<k):(insP (noLater l k) k xs).Pairwise (fun x y=>tB l x y=true):=by
 induction xs with
 | nil=>simp [insP]
 | cons x r ih =>
  rw [List.pairwise_cons] at hp
  have hx:=hr x (List.mem_cons_self ..)
  unfold insP
  split
  ·rename_i hq
   rw [List.pairwise_cons]
   refine ⟨fun y hy => ?_,ih hp.2 (fun y hy=>hr y (List.mem_cons_of_mem _ hy))⟩
   rcases insP_mem.1 hy with rfl | hy
   ·unfold noLater at hq
    have h1:lB l (k:Int) x=false:=by unfold lB;simpa using hq
    unfold tB;rw [h1];simp;omega
   ·exact hp.1 y hy
  ·rename_i hq
   have h1:lB l (k:Int) x=true:=by unfold noLater at hq;unfold lB;simpa using hq
   have h2:tB l (k:Int) x=true:=by unfold tB;rw [h1];rfl
   rw [List.pairwise_cons,List.pairwise_cons]
   exact ⟨fun y hy=>by rcases List.mem_cons.1 hy with rfl | hy;exact h2;exact tB_trans l _ _ _ h2 (hp.1 y hy),hp⟩
theorem insP_perm {α:Type} (p:α→Bool) (t:α) (l:List α):(insP p t l).Perm (t :: l):=by
 rw [insP_eq]
 have h:=List.take_append_drop (cntQ p l) l
 have:(List.take (cntQ p l) l++[t]++List.drop (cntQ p l) l).Perm ([t]++(List.take (cntQ p l) l++List.drop (cntQ p l) l)):=by
  rw [List.append_assoc]
  exact (List.perm_append_comm_assoc _ _ _)
 rw [h] at this
 exact this
def upTo (n:Nat):List Int:=(List.range n).map Int.ofNat
theorem upTo_succ (n:Nat):upTo (n+1)=upTo n++[(n:Int)]:=by unfold upTo;rw [List.range_succ,List.map_append];rfl
theorem upTo_length (n:Nat):(upTo n).length=n:=by simp [upTo]
theorem ordTo_rises (l:List Flight):∀ k,(ordTo l k).Pairwise (fun x y=>tB l x y=true)∧(ordTo l k).Perm (upTo k)
 | 0=>⟨List.Pairwise.nil,List.Perm.refl _⟩
 | k+1=>by
  obtain ⟨h1,h2⟩:=ordTo_rises l k
  refine ⟨insP_rises h1 (fun x hx=>(ordTo_range l k x hx).2),(insP_perm _ _ _).trans ?_⟩
  rw [upTo_succ]
  exact (h2.cons _).trans (List.perm_append_comm (l₁:=[(k:Int)]))
theorem order_unique {l:List Flight} {a b:List Int} (ha:a.Pairwise (fun x y=>tB l x y=true)) (hb:b.Pairwise (fun x y=>tB l x y=true)) (h:a.Perm b):a=b :=
 h.eq_of_pairwise (fun x y _ _ h1 h2=>by rw [tB_asymm h1] at h2;cases h2) ha hb
theorem pairwise_of_sorted {l:List Flight} {d:Array Int} (hn:d.toList.Nodup) (hs:SortedIn (tB l) 0 d.size d):d.toList.Pairwise (fun x y=>tB l x y=true):=by
 rw [List.pairwise_iff_getElem]
 intro i j hi hj hij
 rw [Array.length_toList] at hi hj
 have h1:=hs i j (Nat.zero_le _) hij hj
 rw [getElem!_pos d i hi,getElem!_pos d j hj] at h1
 rcases tB_tri l _ _ h1 with e | h2
 ·exfalso
  have:=List.pairwise_iff_getElem.1 (List.nodup_iff_pairwise_ne.1 hn) i j (by simpa using hi) (by simpa using hj) hij
  exact this (by simpa using e.symm)
 ·simpa using h2
theorem upTo_nodup (n:Nat):(upTo n).Nodup:=by
 unfold upTo
 rw [List.nodup_iff_pairwise_ne,List.pairwise_map]
 exact List.nodup_range.imp (fun h e=>h (Int.ofNat.inj e))
theorem extract_all (d:Array Int):(d.extract 0 d.size).toList=d.toList:=by simp
theorem order_of_sorted {l:List Flight} {n:Nat} {d:Array Int} (hp:PermIn 0 n (upTo n).toArray d) (hs:SortedIn (tB l) 0 n d):d.toList=ordTo l n:=by
 have hz:d.size=n:=by rw [hp.1];simp [upTo_length]
 subst hz
 have hpp:d.toList.Perm (upTo d.size):=by
  have:=hp.2.2
  rw [extract_all] at this
  refine this.trans ?_
  rw [List.extract_toArray]
  simp [List.extract_eq_take_drop,upTo_length,List.take_of_length_le]
 exact order_unique (pairwise_of_sorted ((List.Perm.nodup_iff hpp).2 (upTo_nodup _)) hs) (ordTo_rises l d.size).1 (hpp.trans (ordTo_rises l d.size).2.symm)
theorem upTo_get {n k:Nat} (h:k<n):(upTo n).toArray[k]! = (k:Int):=by
 rw [getElem!_pos _ k (by simp [upTo_length,h])];simp [upTo]
end Core
end Go.Proofs.YthcpbojmalgdbaaGreatDoor
namespace Go.Proofs.YthcpbojmalgdbaaGreatDoor.Core
theorem okB_len {b:Book} (h:okB b=true):b.f2.length=b.f1.length:=(slotsB_parts (fitsB_parts h).2.1).2.1
def capNm:Nat→ByteArray
 | 0=>⟨#[101]⟩
 | 1=>⟨#[110,45,49]⟩
 | _=>⟨#[119]⟩
def CapsTo (k:Nat) (vs:List Cap):Prop:=vs.length≤k∧(∀ c∈vs,capB c=true∧∃ j,j<k∧c.f0=capNm j)∧vs.Pairwise (fun a b=>bySector a b=true)
theorem capNm_ok (j:Nat):nameB (capNm j)=true:=by
 match j with
 | 0=>decide
 | 1=>decide
 | _+2=>exact (by decide:nameB ⟨#[119]⟩=true)
theorem capNm_less {i j:Nat} (h:i<j) (hj:j<3):lessB (capNm i) (capNm j)=true:=by
 have h:(i=0∧j=1)∨(i=0∧j=2)∨(i=1∧j=2):=by omega
 rcases h with ⟨rfl,rfl⟩ | ⟨rfl,rfl⟩ | ⟨rfl,rfl⟩ <;> decide +kernel
theorem CapsTo.nil (k:Nat):CapsTo k []:=⟨Nat.zero_le _,by simp,List.Pairwise.nil⟩
theorem CapsTo.skip {k:Nat} {vs:List Cap} (h:CapsTo k vs):CapsTo (k+1) vs:=⟨Nat.le_succ_of_le h.1,fun c hc=>⟨(h.2.1 c hc).1,by obtain ⟨j,h1,h2⟩:=(h.2.1 c hc).2;exact ⟨j,by omega,h2⟩⟩,h.2.2⟩
theorem CapsTo.step {k:Nat} {vs:List Cap} (h:CapsTo k vs) (hk:k<3) {c:Cap} (hn:c.f0=capNm k) (h0:0≤c.f1) (h1:c.f1≤20):CapsTo (k+1) (vs++[c]):=by
 refine ⟨by rw [List.length_append,List.length_singleton];have:=h.1;omega,fun d hd => ?_,?_⟩
 ·rcases List.mem_append.1 hd with h2 | h2
  ·exact h.skip.2.1 d h2
  ·rw [List.mem_singleton.1 h2]
   refine ⟨?_,k,by omega,hn⟩
   unfold capB inB
   rw [hn,capNm_ok,decide_eq_true h0,decide_eq_true h1]
   rfl
 ·rw [List.pairwise_append]
  refine ⟨h.2.2,List.pairwise_singleton _ _,fun a ha d hd => ?_⟩
  obtain ⟨j,h2,h3⟩:=(h.2.1 a ha).2
  rw [List.mem_singleton.1 hd]
  unfold bySector
  rw [h3,hn]
  exact capNm_less h2 hk
theorem CapsTo.ok {vs:List Cap} (h:CapsTo 3 vs):capsB vs=true:=by
 unfold capsB
 rw [decide_eq_true (by have:=h.1;omega:vs.length≤6),link_of_pairwise _ _ h.2.2,List.all_eq_true.2 (fun c hc=>(h.2.1 c hc).1)]
 rfl
theorem addR_ok {b:Book} (h:okB b=true) (f:Flight):okB (addR b f).1=true∧(addR b f).1.f0=b.f0:=by
 unfold addR
 rw [if_neg (by rw [h];decide)]
 by_cases h1:flightB f=false
 ·rw [if_pos h1];exact ⟨h,rfl⟩
 rw [if_neg h1]
 by_cases h2:0≤atB b.f1 f.f0
 ·rw [if_pos h2];exact ⟨h,rfl⟩
 rw [if_neg h2]
 by_cases h3:8≤b.f1.length
 ·rw [if_pos h3];exact ⟨h,rfl⟩
 rw [if_neg h3]
 exact ⟨addN_ok h (by simpa using h1) h2 h3,rfl⟩
theorem dropR_ok {b:Book} (h:okB b=true) (n:ByteArray):okB (dropR b n).1=true∧(dropR b n).1.f0=b.f0:=by
 unfold dropR
 rw [if_neg (by rw [h];decide)]
 by_cases h1:atB b.f1 n<0
 ·rw [if_pos h1];exact ⟨h,rfl⟩
 rw [if_neg h1]
 exact ⟨dropN_ok h _,rfl⟩
end Go.Proofs.YthcpbojmalgdbaaGreatDoor.Core
namespace Go.Proofs.YthcpbojmalgdbaaGreatDoor
namespace Core
structure RunsOk (f:Int→Int) (n:Int) (rs:List Run):Prop where
 good:∀ (i:Nat) (r:Run),rs[i]? = some r→0≤r.f0∧r.f0≤r.f1∧r.f1<n∧1≤r.f2∧∀ t,r.f0≤t→t≤r.f1→f t=r.f2
 apart:∀ (i:Nat) (a b:Run),rs[i]? = some a→rs[i+1]? = some b→a.f1<b.f0∧¬ (b.f0=a.f1+1∧b.f2=a.f2)
 all:∀ t,0≤t→t<n→f t≠0→∃ (i:Nat) (r:Run),rs[i]? = some r∧r.f0≤t∧t≤r.f1
theorem RunsOk.nil (f:Int→Int):RunsOk f 0 []:=⟨fun i r h=>by simp at h,fun i a b h=>by simp at h,fun t h0 h1=>by omega⟩
theorem RunsOk.zero {f:Int→Int} (h:∀ t,f t=0) (n:Int):RunsOk f n []:=⟨fun i r h=>by simp at h,fun i a b h=>by simp at h,fun t _ _ h2=>absurd (h t) h2⟩
theorem RunsOk.skip {f:Int→Int} {n:Int} {rs:List Run} (h:RunsOk f n rs) (h0:f n=0):RunsOk f (n+1) rs :=
 ⟨fun i r hr=>by obtain ⟨a,b,c,d,e⟩:=h.good i r hr;exact ⟨a,b,by omega,d,e⟩,h.apart,fun t ht0 ht1 hne=>by
  by_cases e:t=n
  ·subst e;exact absurd h0 hne
  ·exact h.all t ht0 (by omega) hne⟩
theorem lastR_at {o:List Run} (h:0<o.length):o[o.length-1]? = some (lastR o):=by
 unfold lastR
 rw [List.getD_eq_getElem?_getD,List.getElem?_eq_getElem (by omega)]
 rfl
theorem RunsOk.step {f:Int→Int} {n:Int} {rs:List Run} (h:RunsOk f n rs) (hn:0≤n) (h1:1≤f n):RunsOk f (n+1) (stepRun rs n (f n)):=by
 unfold stepRun
 by_cases hj:joinB rs n (f n)=true
 ·rw [if_pos hj]
  unfold joinB at hj
  simp only [Bool.and_eq_true,decide_eq_true_eq] at hj
  obtain ⟨⟨hl,ht⟩,hv⟩:=hj
  have hlast:=lastR_at hl
  obtain ⟨g0,g1,g2,g3,g4⟩:=h.good _ _ hlast
  obtain ⟨L,hL⟩:∃ L,L=lastR rs:=⟨_,rfl⟩
  rw [← hL] at hlast ht hv g0 g1 g2 g3 g4 ⊢
  have hget:∀ i,(rs.set (rs.length-1) ⟨L.f0,n,L.f2⟩)[i]? = if i=rs.length-1 then some ⟨L.f0,n,L.f2⟩ else rs[i]? := fun i=>by
   by_cases e:i=rs.length-1
   ·subst e;rw [if_pos rfl,List.getElem?_set_self (by omega)]
   ·rw [if_neg e,List.getElem?_set_ne (fun e2=>e e2.symm)]
  refine ⟨fun i r hr => ?_,fun i a b ha hb => ?_,fun t ht0 ht1 hne => ?_⟩
  ·rw [hget] at hr
   split at hr
   ·rw [← Option.some.inj hr]
    refine ⟨g0,by show L.f0≤n;omega,by show n<n+1;omega,g3,fun t h0 h2 => ?_⟩
    have h2:t≤n:=h2
    show f t=L.f2
    by_cases e:t=n
    ·rw [e,← hv]
    ·exact g4 t h0 (by omega)
   ·obtain ⟨a,b,c,d,e⟩:=h.good i r hr
    exact ⟨a,b,by omega,d,e⟩
  ·rw [hget] at ha hb
   split at ha
   ·rename_i e
    rw [if_neg (by omega)] at hb
    have:=(List.getElem?_eq_some_iff.1 hb).1
    omega
   ·split at hb
    ·rename_i e1 e2
     rw [← Option.some.inj hb]
     have:=h.apart i a L ha (by rw [e2];exact hlast)
     exact this
    ·exact h.apart i a b ha hb
  ·by_cases e:t=n
   ·refine ⟨rs.length-1,⟨L.f0,n,L.f2⟩,by rw [hget,if_pos rfl],by show L.f0≤t;omega,by show t≤n;omega⟩
   ·obtain ⟨i,r,hr,h0,h2⟩:=h.all t ht0 (by omega) hne
    by_cases ei:i=rs.length-1
    ·subst ei
     rw [hlast] at hr
     rw [← Option.some.inj hr] at h0 h2
     exact ⟨rs.length-1,⟨L.f0,n,L.f2⟩,by rw [hget,if_pos rfl],h0,by show t≤n;omega⟩
    ·exact ⟨i,r,by rw [hget,if_neg ei];exact hr,h0,h2⟩
 ·rw [if_neg hj]
  have hget:∀ i,(rs++[⟨n,n,f n⟩])[i]? = if i=rs.length then some ⟨n,n,f n⟩ else rs[i]? := fun i=>by
   by_cases e:i=rs.length
   ·subst e;rw [if_pos rfl,List.getElem?_append_right (Nat.le_refl _)];simp
   ·rw [if_neg e]
    by_cases e2:i<rs.length
    ·rw [List.getElem?_append_left e2]
    ·rw [List.getElem?_append_right (by omega),List.getElem?_eq_none (by omega:rs.length≤i)]
     rw [List.getElem?_eq_none (by simp;omega)]
  refine ⟨fun i r hr => ?_,fun i a b ha hb => ?_,fun t ht0 ht1 hne => ?_⟩
  ·rw [hget] at hr
   split at hr
   ·rw [← Option.some.inj hr]
    exact ⟨hn,Int.le_refl _,by show n<n+1;omega,h1,fun t h0 h2=>by
     have h0:n≤t:=h0
     have h2:t≤n:=h2
     show f t=f n
     rw [show t=n by omega]⟩
   ·obtain ⟨a,b,c,d,e⟩:=h.good i r hr
    exact ⟨a,b,by omega,d,e⟩
  ·rw [hget] at ha hb
   split at ha
   ·rename_i e
    rw [if_neg (by omega)] at hb
    have:=(List.getElem?_eq_some_iff.1 hb).1
    omega
   ·split at hb
    ·rename_i e1 e2
     rw [← Option.some.inj hb]
     have ea:a=lastR rs:=by
      have hl:0<rs.length:=by omega
      have h3:=lastR_at hl
      rw [show rs.length-1=i by omega,ha] at h3
      exact Option.some.inj h3
     have hg:=(h.good i a ha)
     refine ⟨by show a.f1<n;omega,fun he=>hj ?_⟩
     have he1:n=a.f1+1:=he.1
     have he2:f n=a.f2:=he.2
     unfold joinB
     rw [← ea,decide_eq_true (by omega:0<rs.length),decide_eq_true (by omega:a.f1=n-1),decide_eq_true he2.symm]
     rfl
    ·exact h.apart i a b ha hb
  ·by_cases e:t=n
   ·exact ⟨rs.length,⟨n,n,f n⟩,by rw [hget,if_pos rfl],by show n≤t;omega,by show t≤n;omega⟩
   ·obtain ⟨i,r,hr,h0,h2⟩:=h.all t ht0 (by omega) hne
    have:=(List.getElem?_eq_some_iff.1 hr).1
    exact ⟨i,r,by rw [hget,if_neg (by omega)];exact hr,h0,h2⟩
end Core
namespace Core
open Go.Sort
def RotIn (a m b:Nat) (d d':Array Int):Prop :=
 d'.size=d.size∧∀ k,d'[k]! = if a≤k∧k<a+(b-m) then d[m+(k-a)]! else if a+(b-m)≤k∧k<b then d[a+(k-(a+(b-m)))]! else d[k]!
def swapR (a b:Nat):Nat→Array Int→Array Int
 | 0,d=>d
 | n+1,d=>swp (swapR a b n d) (a+n) (b+n)
theorem swapR_size (a b:Nat):∀ n d,(swapR a b n d).size=d.size
 | 0,d=>rfl
 | n+1,d=>by unfold swapR;rw [swp_size,swapR_size a b n d]
theorem swapR_get (a b:Nat):∀ n d,a+n≤b→b+n≤d.size→∀ k,(swapR a b n d)[k]! = if a≤k∧k<a+n then d[b+(k-a)]! else if b≤k∧k<b+n then d[a+(k-b)]! else d[k]!
 | 0,d,_,_,k=>by rw [if_neg (by omega),if_neg (by omega)];rfl
 | n+1,d,hab,hb,k=>by
  have hs:=swapR_size a b n d
  unfold swapR
  rw [swp_get _ (by rw [hs];omega) (by rw [hs];omega)]
  have ih:=swapR_get a b n d (by omega) (by omega)
  by_cases h1:k=b+n
  ·subst h1
   rw [if_pos rfl,ih,if_neg (by omega),if_neg (by omega),if_neg (by omega),if_pos (by omega)]
   congr 1;omega
  ·rw [if_neg h1]
   by_cases h2:k=a+n
   ·subst h2
    rw [if_pos rfl,ih,if_neg (by omega),if_neg (by omega),if_pos (by omega)]
    congr 1;omega
   ·rw [if_neg h2,ih]
    by_cases h3:a≤k∧k<a+n
    ·rw [if_pos h3,if_pos (by omega)]
    ·rw [if_neg h3]
     by_cases h4:b≤k∧k<b+n
     ·rw [if_pos h4,if_neg (by omega),if_pos (by omega)]
     ·rw [if_neg h4,if_neg (by omega),if_neg (by omega)]
theorem swapR_perm (a b lo hi:Nat):∀ n d,lo≤a→a+n≤b→b+n≤hi→hi≤d.size→PermIn lo hi d (swapR a b n d)
 | 0,d,_,_,_,_=>permIn_refl d lo hi
 | n+1,d,h0,hab,hb,hd=>by
  have ih:=swapR_perm a b lo hi n d h0 (by omega) (by omega) hd
  unfold swapR
  exact permIn_trans _ _ _ _ _ ih (swp_permIn _ lo hi (a+n) (b+n) (by omega) (by omega) (by omega) (by omega) (by rw [swapR_size];exact hd))
theorem rot_left {m i j:Nat} {d:Array Int} (hj:1≤j) (hij:j<i) (him:i≤m) (hb:m+j≤d.size) (d':Array Int) (hr:RotIn (m-(i-j)) m (m+j) (swapR (m-i) m j d) d'):RotIn (m-i) m (m+j) d d':=by
 have g:=swapR_get (m-i) m j d (by omega) (by omega)
 refine ⟨by rw [hr.1,swapR_size],fun k => ?_⟩
 rw [hr.2 k]
 by_cases h1:m-i≤k∧k<m-i+(m+j-m)
 ·rw [if_pos h1,if_neg (by omega),if_neg (by omega),g,if_pos (by omega)]
 ·rw [if_neg h1]
  by_cases h2:m-(i-j)≤k∧k<m-(i-j)+(m+j-m)
  ·rw [if_pos h2,if_pos (by omega),g,if_neg (by omega),if_pos (by omega)]
   congr 1;omega
  ·rw [if_neg h2]
   by_cases h3:m-(i-j)+(m+j-m)≤k∧k<m+j
   ·rw [if_pos h3,if_pos (by omega),g,if_neg (by omega),if_neg (by omega)]
    congr 1;omega
   ·rw [if_neg h3,if_neg (by omega),g,if_neg (by omega),if_neg (by omega)]
theorem rot_right {m i j:Nat} {d:Array Int} (hi:1≤i) (hij:i<j) (him:i≤m) (hb:m+j≤d.size) (d':Array Int) (hr:RotIn (m-i) m (m+(j-i)) (swapR (m-i) (m+j-i) i d) d'):RotIn (m-i) m (m+j) d d':=by
 have g:=swapR_get (m-i) (m+j-i) i d (by omega) (by omega)
 refine ⟨by rw [hr.1,swapR_size],fun k => ?_⟩
 rw [hr.2 k]
 by_cases h1:m-i≤k∧k<m-i+(m+(j-i)-m)
 ·rw [if_pos h1,if_pos (by omega),g,if_neg (by omega),if_neg (by omega)]
 ·rw [if_neg h1]
  by_cases h2:m-i+(m+(j-i)-m)≤k∧k<m+(j-i)
  ·rw [if_pos h2,g,if_pos (by omega),if_pos (by omega)]
   congr 1;omega
  ·rw [if_neg h2,g]
   by_cases h3:m+j-i≤k∧k<m+j-i+i
   ·rw [if_neg (by omega),if_pos h3,if_neg (by omega),if_pos (by omega)]
    congr 1;omega
   ·rw [if_neg (by omega),if_neg h3,if_neg (by omega),if_neg (by omega)]
theorem rot_even {m i:Nat} {d:Array Int} (him:i≤m) (hb:m+i≤d.size):RotIn (m-i) m (m+i) d (swapR (m-i) m i d):=by
 have g:=swapR_get (m-i) m i d (by omega) (by omega)
 refine ⟨swapR_size ..,fun k => ?_⟩
 rw [g]
 by_cases h1:m-i≤k∧k<m-i+i
 ·rw [if_pos h1,if_pos (by omega)]
 ·rw [if_neg h1]
  by_cases h2:m≤k∧k<m+i
  ·rw [if_pos h2,if_neg (by omega),if_pos (by omega)]
   congr 1;omega
  ·rw [if_neg h2,if_neg (by omega),if_neg (by omega)]
theorem rot_none {s m e:Nat} {d:Array Int} (h:s=m∨e=m) (hs:s≤m) (he:m≤e):RotIn s m e d d:=by
 refine ⟨rfl,fun k => ?_⟩
 by_cases h1:s≤k∧k<s+(e-m)
 ·rw [if_pos h1];congr 1;omega
 ·rw [if_neg h1]
  by_cases h2:s+(e-m)≤k∧k<e
  ·rw [if_pos h2];congr 1;omega
  ·rw [if_neg h2]
theorem rot_in1 {s m e k:Nat} {d d1:Array Int} (h:RotIn s m e d d1) (h1:s≤k) (h2:k<s+(e-m)):d1[k]! = d[m+(k-s)]! := by rw [h.2 k,if_pos ⟨h1,h2⟩]
theorem rot_in2 {s m e k:Nat} {d d1:Array Int} (h:RotIn s m e d d1) (h1:s+(e-m)≤k) (h2:k<e):d1[k]! = d[s+(k-(s+(e-m)))]! := by rw [h.2 k,if_neg (by omega),if_pos ⟨h1,h2⟩]
theorem rot_out {s m e k:Nat} {d d1:Array Int} (h:RotIn s m e d d1) (hsm:s≤m) (hme:m≤e) (h1:k<s∨e≤k):d1[k]! = d[k]! := by rw [h.2 k,if_neg (by omega),if_neg (by omega)]
section
variable {lt:Int→Int→Bool}
theorem rot_cross {a s m e b:Nat} {d d1:Array Int} (hr:RotIn s m e d d1) (has:a≤s) (hsm:s≤m) (hme:m≤e) (heb:e≤b) (hL:SortedIn lt a m d) (hR:SortedIn lt m b d)
  (hAD:∀ i j,a≤i→i<s→e≤j→j<b→lt d[j]! d[i]! = false) (hCB:∀ i j,s≤i→i<m→m≤j→j<e→lt d[i]! d[j]! = false) :
  ∀ p q,a≤p→p<s+(e-m)→s+(e-m)≤q→q<b→lt d1[q]! d1[p]! = false:=by
 intro p q hp hp2 hq hq2
 by_cases h1:p<s <;> by_cases h2:q<e
 ·rw [rot_out hr hsm hme (.inl h1),rot_in2 hr hq h2]
  exact hL _ _ hp (by omega) (by omega)
 ·rw [rot_out hr hsm hme (.inl h1),rot_out hr hsm hme (.inr (by omega))]
  exact hAD _ _ hp h1 (by omega) hq2
 ·rw [rot_in1 hr (by omega) hp2,rot_in2 hr hq h2]
  exact hCB _ _ (by omega) (by omega) (by omega) (by omega)
 ·rw [rot_in1 hr (by omega) hp2,rot_out hr hsm hme (.inr (by omega))]
  exact hR _ _ (by omega) (by omega) hq2
theorem sym_ends (hS:SWO lt) {a m b s lo hi:Nat} {d:Array Int} (ham:a<m) (hmb:m<b) (hlo:lo=if (a+b) / 2<m then (a+b) / 2+m-b else a) (hhi:hi=if (a+b) / 2<m then (a+b) / 2 else m)
  (h1:lo≤s) (h2:s≤hi) (hL:SortedIn lt a m d) (hR:SortedIn lt m b d)
  (hs:s=lo∨lt d[(a+b) / 2+m-1-(s-1)]! d[s-1]! = false) (hr:s=hi∨lt d[(a+b) / 2+m-1-s]! d[s]! = true) :
  (a≤s∧s≤m∧m≤(a+b) / 2+m-s∧(a+b) / 2+m-s≤b) ∧
  (∀ i j,a≤i→i<s→(a+b) / 2+m-s≤j→j<b→lt d[j]! d[i]! = false)∧(∀ i j,s≤i→i<m→m≤j→j<(a+b) / 2+m-s→lt d[i]! d[j]! = false):=by
 have hlow:∀ i j,m≤i→i≤j→j<b→lt d[j]! d[i]! = false:=fun i j h1 h2 h3=>by
  rcases Nat.lt_or_ge i j with h | h
  ·exact hR i j h1 h h3
  ·obtain rfl:i=j:=by omega
   exact hS.irrefl _
 have hlow2:∀ i j,a≤i→i≤j→j<m→lt d[j]! d[i]! = false:=fun i j h1 h2 h3=>by
  rcases Nat.lt_or_ge i j with h | h
  ·exact hL i j h1 h h3
  ·obtain rfl:i=j:=by omega
   exact hS.irrefl _
 by_cases hm:(a+b) / 2<m
 ·rw [if_pos hm] at hlo hhi
  refine ⟨by omega,fun i j hi hi2 hj hj2 => ?_,fun i j hi hi2 hj hj2 => ?_⟩
  ·rcases hs with hs | hs
   ·omega
   ·have e:(a+b) / 2+m-1-(s-1)=(a+b) / 2+m-s:=by omega
    rw [e] at hs
    exact hS.ntrans _ _ _ (hlow _ j (by omega) hj hj2) (hS.ntrans _ _ _ hs (hlow2 i (s-1) hi (by omega) (by omega)))
  ·rcases hr with hr | hr
   ·omega
   ·cases e:lt d[i]! d[j]! with
    | false=>rfl
    | true =>
     have h3:=hlow j ((a+b) / 2+m-1-s) hj (by omega) (by omega)
     have h4:=hlow2 s i (by omega) hi hi2
     have h5:=hS.trans _ _ _ hr (by
      cases e2:lt d[s]! d[j]! with
      | true=>rfl
      | false =>
       have:=hS.ntrans _ _ _ h4 e2
       rw [e] at this;cases this)
     rw [h3] at h5;cases h5
 ·rw [if_neg hm] at hlo hhi
  refine ⟨by omega,fun i j hi hi2 hj hj2 => ?_,fun i j hi hi2 hj hj2 => ?_⟩
  ·rcases hs with hs | hs
   ·omega
   ·have e:(a+b) / 2+m-1-(s-1)=(a+b) / 2+m-s:=by omega
    rw [e] at hs
    exact hS.ntrans _ _ _ (hlow _ j (by omega) hj hj2) (hS.ntrans _ _ _ hs (hlow2 i (s-1) hi (by omega) (by omega)))
  ·rcases hr with hr | hr
   ·omega
   ·cases e:lt d[i]! d[j]! with
    | false=>rfl
    | true =>
     have h3:=hlow j ((a+b) / 2+m-1-s) hj (by omega) (by omega)
     have h4:=hlow2 s i (by omega) hi hi2
     have h5:=hS.trans _ _ _ hr (by
      cases e2:lt d[s]! d[j]! with
      | true=>rfl
      | false =>
       have:=hS.ntrans _ _ _ h4 e2
       rw [e] at this;cases this)
     rw [h3] at h5;cases h5
theorem halves {a mid b:Nat} {d1 d2 d3:Array Int} (hb:b≤d1.size) (ham:a≤mid) (hmb:mid≤b) (hX:∀ p q,a≤p→p<mid→mid≤q→q<b→lt d1[q]! d1[p]! = false)
  (p1:PermIn a mid d1 d2) (s1:SortedIn lt a mid d2) (p2:PermIn mid b d2 d3) (s2:SortedIn lt mid b d3):PermIn a b d1 d3∧SortedIn lt a b d3:=by
 have z2:d2.size=d1.size:=p1.1
 have z3:d3.size=d2.size:=p2.1
 have hX2:∀ p q,a≤p→p<mid→mid≤q→q<b→lt d2[q]! d2[p]! = false:=fun p q hp hp2 hq hq2=>by
  rw [p1.2.1 q (.inr hq)]
  exact permIn_all d1 d2 a mid (fun x=>lt d1[q]! x=false) (by omega) p1 (fun i hi hi2=>hX i q hi hi2 hq hq2) p hp hp2
 refine ⟨permIn_trans _ _ _ _ _ (permIn_mono _ _ a mid a b (Nat.le_refl _) hmb hb p1) (permIn_mono _ _ mid b a b ham (Nat.le_refl _) (by omega) p2),fun i j hi hij hj => ?_⟩
 by_cases h1:i<mid <;> by_cases h2:j<mid
 ·rw [p2.2.1 i (.inl h1),p2.2.1 j (.inl h2)]
  exact s1 i j hi hij h2
 ·rw [p2.2.1 i (.inl h1)]
  exact permIn_all d2 d3 mid b (fun x=>lt x d2[i]! = false) (by omega) p2 (fun q hq hq2=>hX2 i q hi h1 hq hq2) j (by omega) hj
 ·omega
 ·exact s2 i j (by omega) hij hj
theorem sorted_congr {a b:Nat} {d d':Array Int} (h:SortedIn lt a b d) (e:∀ k,a≤k→k<b→d'[k]! = d[k]!):SortedIn lt a b d':=fun i j hi hij hj=>by
 rw [e i hi (by omega),e j (by omega) hj];exact h i j hi hij hj
theorem sorted_shift {a b:Nat} {d d':Array Int} (c:Nat) {a':Nat} (h:SortedIn lt a b d) (e:∀ k,a'≤k→k<a'+(b-a)→d'[k]! = d[a+(k-a')]!):SortedIn lt a' (a'+(b-a)) d':=fun i j hi hij hj=>by
 rw [e i hi (by omega),e j (by omega) hj];exact h _ _ (by omega) (by omega) (by omega)
end
section
variable {lt:Int→Int→Bool}
theorem merge_left (hS:SWO lt) {a b i:Nat} {d d':Array Int} (hi:a+1≤i) (hib:i≤b) (hR:SortedIn lt (a+1) b d) (h1:i=a+1∨lt d[i-1]! d[a]! = true) (h2:i=b∨lt d[i]! d[a]! = false) (hr:RotIn a (a+1) i d d'):SortedIn lt a b d':=by
 have le:∀ p q,a+1≤p→p≤q→q<b→lt d[q]! d[p]! = false:=fun p q h1 h2 h3=>by
  rcases Nat.lt_or_ge p q with h | h
  ·exact hR p q h1 h h3
  ·obtain rfl:p=q:=by omega
   exact hS.irrefl _
 intro p q hp hpq hq
 by_cases c1:p<i-1
 ·rw [rot_in1 hr hp (by omega),show a+1+(p-a)=p+1 by omega]
  by_cases c2:q<i-1
  ·rw [rot_in1 hr (by omega) (by omega),show a+1+(q-a)=q+1 by omega]
   exact hR _ _ (by omega) (by omega) (by omega)
  ·by_cases c3:q<i
   ·rw [rot_in2 hr (by omega) c3,show a+(q-(a+(i-(a+1))))=a by omega]
    rcases h1 with h1 | h1
    ·omega
    ·cases e:lt d[a]! d[p+1]! with
     | false=>rfl
     | true =>
      have h3:=hS.trans _ _ _ h1 e
      rw [le (p+1) (i-1) (by omega) (by omega) (by omega)] at h3;cases h3
   ·rw [rot_out hr (by omega) (by omega) (.inr (by omega))]
    exact hR _ _ (by omega) (by omega) hq
 ·by_cases c3:p<i
  ·rw [rot_in2 hr (by omega) c3,show a+(p-(a+(i-(a+1))))=a by omega,rot_out hr (by omega) (by omega) (.inr (by omega))]
   rcases h2 with h2 | h2
   ·omega
   ·exact hS.ntrans _ _ _ (le i q (by omega) (by omega) hq) h2
  ·rw [rot_out hr (by omega) (by omega) (.inr (by omega)),rot_out hr (by omega) (by omega) (.inr (by omega))]
   exact hR _ _ (by omega) hpq hq
theorem merge_right (hS:SWO lt) {a m i:Nat} {d d':Array Int} (hi:a≤i) (him:i≤m) (hL:SortedIn lt a m d) (h1:i=a∨lt d[m]! d[i-1]! = false) (h2:i=m∨lt d[m]! d[i]! = true) (hr:RotIn i m (m+1) d d'):SortedIn lt a (m+1) d':=by
 have le:∀ p q,a≤p→p≤q→q<m→lt d[q]! d[p]! = false:=fun p q h1 h2 h3=>by
  rcases Nat.lt_or_ge p q with h | h
  ·exact hL p q h1 h h3
  ·obtain rfl:p=q:=by omega
   exact hS.irrefl _
 intro p q hp hpq hq
 by_cases c1:p<i
 ·rw [rot_out hr him (by omega) (.inl c1)]
  by_cases c2:q<i
  ·rw [rot_out hr him (by omega) (.inl c2)]
   exact hL _ _ hp hpq (by omega)
  ·by_cases c3:q=i
   ·rw [rot_in1 hr (by omega) (by omega),show m+(q-i)=m by omega]
    rcases h1 with h1 | h1
    ·omega
    ·exact hS.ntrans _ _ _ h1 (le p (i-1) hp (by omega) (by omega))
   ·rw [rot_in2 hr (by omega) hq]
    exact hL _ _ hp (by omega) (by omega)
 ·by_cases c3:p=i
  ·rw [rot_in1 hr (k:=p) (by omega) (by omega),show m+(p-i)=m by omega,rot_in2 hr (k:=q) (by omega) hq]
   rcases h2 with h2 | h2
   ·omega
   ·cases e:lt d[i+(q-(i+(m+1-m)))]! d[m]! with
    | false=>rfl
    | true =>
     have h3:=hS.trans _ _ _ e h2
     rw [le i (i+(q-(i+(m+1-m)))) hi (by omega) (by omega)] at h3;cases h3
  ·rw [rot_in2 hr (k:=p) (by omega) (by omega),rot_in2 hr (k:=q) (by omega) hq]
   exact hL _ _ (by omega) (by omega) (by omega)
end
theorem rot_up {a k:Nat} {d dk:Array Int} (ha:a≤k) (hk:k+1<d.size) (h:RotIn a (a+1) (k+1) d dk):RotIn a (a+1) (k+2) d (swp dk k (k+1)):=by
 have hz:=h.1
 refine ⟨by rw [swp_size];exact hz,fun x => ?_⟩
 rw [swp_get _ (by omega) (by omega)]
 by_cases e1:x=k+1
 ·subst e1
  rw [if_pos rfl,rot_in2 h (by omega) (by omega),if_neg (by omega),if_pos (by omega)]
  congr 1;omega
 ·rw [if_neg e1]
  by_cases e2:x=k
  ·subst e2
   rw [if_pos rfl,rot_out h (by omega) (by omega) (.inr (by omega)),if_pos (by omega)]
   congr 1;omega
  ·rw [if_neg e2,h.2 x]
   by_cases e3:a≤x∧x<a+(k+1-(a+1))
   ·rw [if_pos e3,if_pos (by omega)]
   ·rw [if_neg e3,if_neg (by omega),if_neg (by omega),if_neg (by omega)]
theorem rot_down {m k:Nat} {d dk:Array Int} (hk:k<m) (hm:m<d.size) (h:RotIn (k+1) m (m+1) d dk):RotIn k m (m+1) d (swp dk (k+1) k):=by
 have hz:=h.1
 refine ⟨by rw [swp_size];exact hz,fun x => ?_⟩
 rw [swp_get _ (by omega) (by omega)]
 by_cases e1:x=k
 ·subst e1
  rw [if_pos rfl,rot_in1 h (by omega) (by omega),if_pos (by omega)]
  congr 1;omega
 ·rw [if_neg e1]
  by_cases e2:x=k+1
  ·subst e2
   rw [if_pos rfl,rot_out h (by omega) (by omega) (.inl (by omega)),if_neg (by omega),if_pos (by omega)]
   congr 1;omega
  ·rw [if_neg e2,h.2 x]
   by_cases e3:k+1+(m+1-m)≤x∧x<m+1
   ·rw [if_neg (by omega),if_pos e3,if_neg (by omega),if_pos (by omega)]
    congr 1;omega
   ·rw [if_neg (by omega),if_neg e3,if_neg (by omega),if_neg (by omega)]
def SB (l:List Flight) (bs a n:Nat) (d:Array Int):Prop:=∀ t,SortedIn (tB l) (a+t*bs) (min n (a+t*bs+bs)) d∧∀ k,a+t*bs≤k→k<min n (a+t*bs+bs)→((a+t*bs:Nat):Int)≤d[k]! ∧ d[k]! < ((a+t*bs+bs:Nat):Int)
def DB (l:List Flight) (bs a:Nat) (d:Array Int):Prop:=∀ t,t*bs+bs≤a→SortedIn (tB l) (t*bs) (t*bs+bs) d∧∀ k,t*bs≤k→k<t*bs+bs→((t*bs:Nat):Int)≤d[k]! ∧ d[k]! < ((t*bs+bs:Nat):Int)
theorem SB_next {l:List Flight} {bs a n:Nat} {d d':Array Int} (h:SB l bs a n d) (c:Nat) (he:∀ k,a+c*bs≤k→d'[k]! = d[k]!):SB l bs (a+c*bs) n d':=fun t=>by
 have:=h (c+t)
 rw [Nat.add_mul,← Nat.add_assoc] at this
 exact ⟨sorted_congr this.1 (fun k hk _=>he k (by omega)),fun k hk hk2=>by rw [he k (by omega)];exact this.2 k hk hk2⟩
theorem DB_next {l:List Flight} {bs T:Nat} {d d':Array Int} (hbs:1≤bs) (h:DB l bs (T*bs) d) (he:∀ k,k<T*bs→d'[k]! = d[k]!) (hs:SortedIn (tB l) (T*bs) (T*bs+bs) d')
  (hm:∀ k,T*bs≤k→k<T*bs+bs→((T*bs:Nat):Int)≤d'[k]! ∧ d'[k]! < ((T*bs+bs:Nat):Int)):DB l bs ((T+1)*bs) d':=fun t ht=>by
 have e:(T+1)*bs=T*bs+bs:=Nat.succ_mul ..
 have e2:(t+1)*bs=t*bs+bs:=Nat.succ_mul ..
 have htT:t≤T:=by
  have:(t+1)*bs≤(T+1)*bs:=by omega
  have:=Nat.le_of_mul_le_mul_right this (by omega)
  omega
 rcases Nat.lt_or_ge t T with h1 | h1
 ·have h2:(t+1)*bs≤T*bs:=Nat.mul_le_mul_right _ h1
  have h3:=h t (by omega)
  exact ⟨sorted_congr h3.1 (fun k _ hk=>he k (by omega)),fun k hk hk2=>by rw [he k (by omega)];exact h3.2 k hk hk2⟩
 ·obtain rfl:t=T:=by omega
  exact ⟨hs,hm⟩
theorem SB_of_DB {l:List Flight} {bs T n:Nat} {d:Array Int} (hbs:1≤bs) (h:DB l bs (T*bs) d) (hn:n≤T*bs+bs) (hs:SortedIn (tB l) (T*bs) n d)
  (hm:∀ k,T*bs≤k→k<n→((T*bs:Nat):Int)≤d[k]! ∧ d[k]! < ((T*bs+bs:Nat):Int)):SB l bs 0 n d:=fun t=>by
 rw [Nat.zero_add]
 rcases Nat.lt_or_ge t T with h1 | h1
 ·have h2:(t+1)*bs≤T*bs:=Nat.mul_le_mul_right _ h1
  rw [Nat.succ_mul] at h2
  have h3:=h t h2
  exact ⟨fun i j hi hij hj=>h3.1 i j hi hij (by omega),fun k hk hk2=>h3.2 k hk (by omega)⟩
 ·rcases Nat.lt_or_ge T t with h2 | h2
  ·have h3:(T+1)*bs≤t*bs:=Nat.mul_le_mul_right _ h2
   rw [Nat.succ_mul] at h3
   exact ⟨fun i j hi hij hj=>by omega,fun k hk hk2=>by omega⟩
  ·obtain rfl:t=T:=by omega
   exact ⟨fun i j hi hij hj=>hs i j hi hij (by omega),fun k hk hk2=>hm k hk (by omega)⟩
theorem DB_zero (l:List Flight) (bs:Nat) (hbs:1≤bs) (d:Array Int):DB l bs 0 d:=fun t ht=>by omega
theorem SB_whole {l:List Flight} {bs n:Nat} {d:Array Int} (h:SB l bs 0 n d) (hn:n≤bs):SortedIn (tB l) 0 n d:=by
 have:=(h 0).1
 rw [Nat.zero_mul,Nat.zero_add,Nat.zero_add,Nat.min_eq_left hn] at this
 exact this
theorem block_sorted {l:List Flight} {n a e:Nat} {dk:Array Int} (hz:dk.size=n) (hae:a≤e) (hen:e≤n) (hk:∀ k,a≤k→k<n→dk[k]! = (k:Int)) :
  PermIn a e dk (Sort.insertionSort (lB l) dk a e)∧SortedIn (tB l) a e (Sort.insertionSort (lB l) dk a e)∧∀ k,a≤k→k<e→(a:Int)≤(Sort.insertionSort (lB l) dk a e)[k]! ∧ (Sort.insertionSort (lB l) dk a e)[k]! < (e:Int):=by
 rw [insertion_agree dk a e (by omega) (fun p k hp hpk hke=>by rw [hk p hp (by omega),hk k (by omega) (by omega)];omega)]
 have h:=insertionSort_holds (tB_swo l) dk a e hae (by omega)
 exact ⟨h.1,h.2,permIn_all _ _ a e (fun x=>(a:Int)≤x∧x<(e:Int)) (by omega) h.1 (fun i h1 h2=>by rw [hk i h1 (by omega)];omega)⟩
theorem members {n a e:Nat} {d d':Array Int} {lo hi:Int} (hz:e≤d.size) (hp:PermIn a e d d') (h:∀ k,a≤k→k<e→lo≤d[k]! ∧ d[k]! < hi):∀ k,a≤k→k<e→lo≤d'[k]! ∧ d'[k]! < hi :=
 permIn_all d d' a e (fun x=>lo≤x∧x<hi) hz hp h
theorem SB_0 {l:List Flight} {bs a n:Nat} {d:Array Int} (h:SB l bs a n d):SortedIn (tB l) a (min n (a+bs)) d∧∀ k,a≤k→k<min n (a+bs)→(a:Int)≤d[k]! ∧ d[k]! < ((a+bs:Nat):Int):=by
 have:=h 0
 rwa [Nat.zero_mul,Nat.add_zero] at this
theorem SB_1 {l:List Flight} {bs a n:Nat} {d:Array Int} (h:SB l bs a n d):SortedIn (tB l) (a+bs) (min n (a+bs+bs)) d∧∀ k,a+bs≤k→k<min n (a+bs+bs)→((a+bs:Nat):Int)≤d[k]! ∧ d[k]! < ((a+bs+bs:Nat):Int):=by
 have:=h 1
 rwa [Nat.one_mul] at this
theorem SB_two {l:List Flight} {bs a n:Nat} {d d':Array Int} (h:SB l bs a n d) (he:∀ k,a+bs+bs≤k→d'[k]! = d[k]!):SB l bs (a+bs+bs) n d':=by
 have:=SB_next (d':=d') h 2 (fun k hk=>he k (by omega))
 rwa [show a+2*bs=a+bs+bs by omega] at this
end Core
end Go.Proofs.YthcpbojmalgdbaaGreatDoor
namespace Go.Proofs.YthcpbojmalgdbaaGreatDoor.Core
theorem compressR_ok {b:Book} (h:okB b=true):compressR b=compB b:=by
 unfold compressR
 rw [if_neg (by rw [h];decide)]
end Go.Proofs.YthcpbojmalgdbaaGreatDoor.Core
