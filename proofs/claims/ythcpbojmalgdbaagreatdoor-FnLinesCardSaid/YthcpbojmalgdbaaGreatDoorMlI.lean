/- Merged out of this seat's own texts. -/
import Derived.Laws.CopyRow
import Derived.Lib.AppendZerosOnto
import Derived.Lib.Overlaps
import Derived.Test.YthcpbojmalgdbaaGreatDoorMlC
import Derived.Test.YthcpbojmalgdbaaGreatDoorMlA
set_option linter.unusedVariables false
set_option linter.unusedSimpArgs false
namespace Go.Proofs.YthcpbojmalgdbaaGreatDoor.Q
open Go
theorem run_copy_k (P:Program) (w:World) (dT sT ty elem:TypeId) (sz g o dLen dCap:Nat) (a:Addr) (sLen sCap:Nat) (cur:Array Value) (t:TypeId) (cs:List Value)
  (hu:P.underlying dT=some (.slice elem)) (hs:(P.info? elem).map (·.size)=some sz)
  (hg:w.heap[g]? = some (.cells cur t (0,0))) (hn:cs.length=Nat.min sLen dLen*sz)
  (hsrc:∀ j v,cs[j]? = some v→w.cell? (a.add j)=some v) (hfit:o+cs.length≤cur.size) (h1:∀ v∈cs,v.oneCell'=true) :
  (Builtin.copy_ #[dT,sT] ty #[.slice (some ⟨g,o,none⟩) dLen dCap, .slice (some a) sLen sCap]).run P w =
   .ok (goInt (Nat.min sLen dLen:Nat)) (w.setRow g (cur.toList.take o++cs++cur.toList.drop (o+cs.length)).toArray):=by
 have hl:=run_loadCells_list (P:=P) w a cs hsrc
 have hst:=run_storeCells_at P g o t cs 0 cur w hg (by simpa using hfit) h1
 cases hq:P.info? elem with
 | none=>simp [hq] at hs
 | some i =>
  have hi:i.size=sz:=by simpa [hq] using hs
  simp [Builtin.copy_,run_underlying hu,Builtin.lenOf,Builtin.firstCells,sizeOf,typeInfo,hq,hi,← hn,hl,hst]
theorem run_clear_k (P:Program) (w:World) (t e ty:TypeId) (z:Value) (ht:P.underlying t=some (.slice e)) (hv:∀ w,(zeroValue e).run P w = .ok z w) (g o n c:Nat) (hn:0<n) (cur:Array Value)
  (hg:w.heap[g]? = some (.cells cur e (0,0))) (hfit:o+(Builtin.zeroCells z.cells n).toList.length≤cur.size) (h1:∀ v∈(Builtin.zeroCells z.cells n).toList,v.oneCell'=true) :
  (Builtin.clear_ #[t] ty #[.slice (some ⟨g,o,none⟩) n c]).run P w = .ok (.tuple #[]) (w.setRow g (cur.toList.take o++(Builtin.zeroCells z.cells n).toList++cur.toList.drop (o+(Builtin.zeroCells z.cells n).toList.length)).toArray):=by
 have hst:=run_storeCells_at P g o e (Builtin.zeroCells z.cells n).toList 0 cur w hg (by simpa using hfit) h1
 obtain ⟨m,rfl⟩:∃ m,n=m+1:=⟨n-1,by omega⟩
 simp only [Nat.add_zero] at hst
 simp [Builtin.clear_,run_underlying ht,hv,hst]
end Go.Proofs.YthcpbojmalgdbaaGreatDoor.Q
namespace Go.Proofs.YthcpbojmalgdbaaGreatDoor.Q
open Go.RowKit Go.Proofs.YthcpbojmalgdbaaGreatDoorW.PrintWords Go.Proofs.YthcpbojmalgdbaaGreatDoorW.PrintLast Go.Proofs.YthcpbojmalgdbaaGreatDoorW.PrintMore Go.Proofs.YthcpbojmalgdbaaGreatDoor.Core
theorem seg_take {β:Type} (L:List β) (j m s:Nat) (h:(j+1)*s≤m):((L.take m).drop (j*s)).take s=(L.drop (j*s)).take s:=by
 rw [Nat.succ_mul] at h
 rw [List.drop_take,List.take_take,Nat.min_eq_left (by omega)]
theorem seg_left {β:Type} (A B:List β) (j s:Nat) (h:(j+1)*s≤A.length):((A++B).drop (j*s)).take s=(A.drop (j*s)).take s:=by
 rw [Nat.succ_mul] at h
 rw [List.drop_append_of_le_length (by omega),List.take_append_of_le_length (by rw [List.length_drop];omega)]
theorem seg_mid {β:Type} (A C D:List β) (i s:Nat) (hA:A.length=i*s) (hC:C.length=s):((A++C++D).drop (i*s)).take s=C:=by
 rw [List.append_assoc,List.drop_left' hA,List.take_left' hC]
theorem seg_right {β:Type} (A C D:List β) (i m s:Nat) (hA:A.length=i*s) (hC:C.length=s):((A++C++D).drop ((i+1+m)*s)).take s=(D.drop (m*s)).take s:=by
 have e:(A++C).length=(i+1)*s:=by rw [List.length_append,hA,hC,Nat.succ_mul]
 have e2:(i+1+m)*s=(A++C).length+m*s:=by rw [e,Nat.add_mul]
 rw [e2,List.drop_length_add_append]
section
variable {α:Type} {d:Kd α} {e base:Nat} {ok okp:Nat→Prop} {W w1:World} {xs:List α} {g n c:Nat}
theorem S_cur (h:Kd.S d e W base ok (.slice (some ⟨g,0,none⟩) n c) xs) :
  n=xs.length∧base≤g∧g<W.heap.size∧n≤c∧c≤maxLen∧ok g∧∃ cur:Array Value,W.heap[g]? = some (.cells cur e (0,0))∧cur.size=c*d.sz∧∃ f:Nat→Nat,∀ j x,xs[j]? = some x→d.M W base (fun k=>(ok k∧k≠g)∧f k=j) x ((cur.toList.drop (j*d.sz)).take d.sz):=by
 obtain ⟨f,h0,inner,ho,hr⟩:=h
 rw [List.length_zipIdx] at ho
 rcases ho.2 with ⟨hv,_⟩ | ⟨g',cap',cur,hv,hb,hh,hle,hm,hcs,htake⟩
 ·cases hv
 injection hv with ha hn hc
 injection ha with ha
 injection ha with hg
 subst hg
 subst hc
 refine ⟨hn,hb,blk_lt hh,hn ▸ hle,hm,h0 g rfl,cur,hh,hcs,f,fun j x hj => ?_⟩
 have hj2:j<xs.length:=(List.getElem?_eq_some_iff.1 hj).1
 have t:=hr.2 j (x,j) (Kd.zip_at hj)
 rw [← htake] at t
 change d.M W base _ x (((cur.toList.take (xs.length*d.sz)).drop (j*d.sz)).take d.sz) at t
 rw [seg_take _ _ _ _ (Nat.mul_le_mul_right _ hj2)] at t
 exact d.M_mono (fun k hk=>⟨⟨hk.1.1,fun e=>hk.1.2 (by rw [e];rfl)⟩,hk.2⟩) t
theorem S_make {okj:Nat→Nat→Prop} {cur:Array Value} (hb:base≤g) (hh:W.heap[g]? = some (.cells cur e (0,0))) (hle:xs.length≤c) (hm:c≤maxLen) (hcs:cur.size=c*d.sz) (okg:ok g)
  (hap:∀ i j k,okj i k→okj j k→i=j) (hok:∀ j k,okj j k→ok k∧k≠g) (hrep:∀ j x,xs[j]? = some x→d.M W base (okj j) x ((cur.toList.drop (j*d.sz)).take d.sz)) :
  Kd.S d e W base ok (.slice (some ⟨g,0,none⟩) xs.length c) xs:=by
 have hl:(cur.toList.take (xs.length*d.sz)).length=xs.length*d.sz:=by
  rw [List.length_take,show cur.toList.length=c*d.sz by rw [Array.length_toList,hcs],Nat.min_eq_left (Nat.mul_le_mul_right _ hle)]
 obtain ⟨f,hr⟩:=Kd.reps_tag (d:=d) (w:=W) (base:=base) (ok:=fun k=>ok k∧some k≠(Value.slice (some ⟨g,0,none⟩) xs.length c).ownBlock) okj hap (fun j k hk=>⟨(hok j k hk).1,fun e=>(hok j k hk).2 (by simpa [Value.ownBlock] using e)⟩) hl (fun j x hj=>by
  rw [seg_take _ _ _ _ (Nat.mul_le_mul_right _ (List.getElem?_eq_some_iff.1 hj).1)]
  exact hrep j x hj)
 refine ⟨f,fun k hk => ?_,_,?_,hr⟩
 ·have:g=k:=by simpa [Value.ownBlock] using hk
  exact this ▸ okg
 ·rw [List.length_zipIdx]
  exact ⟨hl, .inr ⟨g,c,cur,rfl,hb,hh,hle,hm,hcs,rfl⟩⟩
theorem S_tail {cur cur':Array Value} (h:Kd.S d e W base ok (.slice (some ⟨g,0,none⟩) n c) xs) (hc:W.heap[g]? = some (.cells cur e (0,0))) (hg:W.grownBy w1 (some g)) (hnew:w1.heap[g]? = some (.cells cur' e (0,0))) (hs:cur'.size=cur.size)
  (ht:cur'.toList.take (n*d.sz)=cur.toList.take (n*d.sz)):Kd.S d e w1 base ok (.slice (some ⟨g,0,none⟩) n c) xs:=by
 obtain ⟨hn,hb,hlt,hnc,hm,okg,cur0,hh,hcs,f,hM⟩:=S_cur h
 obtain rfl:cur0=cur:=by rw [hh] at hc;cases hc;rfl
 subst hn
 refine S_make (okj:=fun j k=>((ok k∧k≠g)∧f k=j)) hb hnew hnc hm (by rw [hs,hcs]) okg (fun i j k h1 h2=>h1.2.symm.trans h2.2) (fun j k hk=>hk.1) (fun j x hj => ?_)
 have hj2:j<xs.length:=(List.getElem?_eq_some_iff.1 hj).1
 rw [← seg_take _ _ _ _ (Nat.mul_le_mul_right _ hj2),ht,seg_take _ _ _ _ (Nat.mul_le_mul_right _ hj2)]
 exact d.M_mono (fun k hk=>hk.1) (d.M_move (fun k hk=>hg.block k hk.2.2.1 (fun e=>hk.1.1.2 (by injection e))) (d.M_bound (hM j x hj)))
theorem grown_setRow (w:World) (g:Nat) (cells:Array Value):w.grownBy (w.setRow g cells) (some g) :=
 ⟨rfl,rfl,rfl,by simp [World.setRow],fun k hk hne=>by
  have:¬ g=k:=fun e=>hne (by rw [e])
  simp [World.setRow,Array.getElem?_modify,this]⟩
theorem S_clear {cur:Array Value} (h:Kd.S d e W base ok (.slice (some ⟨g,0,none⟩) n c) xs) (hc:W.heap[g]? = some (.cells cur e (0,0))) (zs:List Value) (hf:n*d.sz+zs.length≤cur.size) :
  Kd.S d e (W.setRow g (cur.toList.take (n*d.sz)++zs++cur.toList.drop (n*d.sz+zs.length)).toArray) base ok (.slice (some ⟨g,0,none⟩) n c) xs∧W.grownBy (W.setRow g (cur.toList.take (n*d.sz)++zs++cur.toList.drop (n*d.sz+zs.length)).toArray) (some g):=by
 have hl:(cur.toList.take (n*d.sz)).length=n*d.sz:=by rw [List.length_take,show cur.toList.length=cur.size from Array.length_toList,Nat.min_eq_left (by omega)]
 refine ⟨S_tail h hc (grown_setRow W g _) (setRow_heap W g cur _ e (0,0) hc) ?_ ?_,grown_setRow W g _⟩
 ·simp only [List.size_toArray,List.length_append,List.length_drop,hl]
  have:cur.toList.length=cur.size:=Array.length_toList
  omega
 ·rw [List.append_assoc,List.take_left' hl]
theorem kept_of_grown {w0 w1:World} (h:w0.grownBy w1 (some g)):Kept w0 w1 (fun k=>k=g):=⟨h.size,fun i hi hn=>h.block i hi (fun e=>hn (by injection e))⟩
theorem S_ins {p:α} {cs:List Value} {i g' c':Nat} {cur cur':Array Value} (h:Kd.S d e W base (fun k=>ok k∧¬ okp k) (.slice (some ⟨g,0,none⟩) n c) xs) (hc:W.heap[g]? = some (.cells cur e (0,0))) (hi:i≤n)
  (hp:d.M W base okp p cs) (hokp:∀ k,okp k→ok k∧k≠g) (hfresh:∀ k,W.heap.size≤k→ok k) (hg:W.grownBy w1 (some g)) (hnew:w1.heap[g']? = some (.cells cur' e (0,0))) (hcs':cur'.size=c'*d.sz) (hle:n+1≤c') (hm':c'≤maxLen) (hb':base≤g')
  (hg':g'=g∨W.heap.size≤g') (ht:cur'.toList.take ((n+1)*d.sz)=cur.toList.take (i*d.sz)++cs++(cur.toList.take (n*d.sz)).drop (i*d.sz)) :
  Kd.S d e w1 base ok (.slice (some ⟨g',0,none⟩) (n+1) c') (insAt i p xs):=by
 obtain ⟨hn,hb,hlt,hnc,hm,okg,cur0,hh,hcs,f,hM⟩:=S_cur h
 obtain rfl:cur0=cur:=by rw [hh] at hc;cases hc;rfl
 subst hn
 have hM1:∀ j x,xs[j]? = some x→d.M w1 base (fun k=>((ok k∧¬ okp k)∧k≠g∧k<W.heap.size)∧f k=j) x ((cur0.toList.drop (j*d.sz)).take d.sz):=fun j x hj =>
  d.M_mono (fun k hk=>⟨⟨hk.1.1.1,hk.1.1.2,hk.2.2.1⟩,hk.1.2⟩) (d.M_move (fun k hk=>hg.block k hk.2.2.1 (fun e=>hk.1.1.2 (by injection e))) (d.M_bound (hM j x hj)))
 have hP1:d.M w1 base (fun k=>okp k∧k<W.heap.size) p cs :=
  d.M_mono (fun k hk=>⟨hk.1,hk.2.2.1⟩) (d.M_move (fun k hk=>hg.block k hk.2.2.1 (fun e=>(hokp k hk.1).2 (by injection e))) (d.M_bound hp))
 have hcl:cs.length=d.sz:=d.K_len (d.K_of_M hp)
 have hlen:(insAt i p xs).length=xs.length+1:=insAt_len p hi
 have hA:(cur0.toList.take (i*d.sz)).length=i*d.sz:=by
  rw [List.length_take,show cur0.toList.length=c*d.sz by rw [Array.length_toList,hcs],Nat.min_eq_left (Nat.mul_le_mul_right _ (by omega))]
 have t:=S_make (d:=d) (e:=e) (W:=w1) (base:=base) (ok:=ok) (g:=g') (c:=c') (xs:=insAt i p xs) (cur:=cur')
  (okj:=fun j k=>(j<i∧((ok k∧¬ okp k)∧k≠g∧k<W.heap.size)∧f k=j)∨(j=i∧okp k∧k<W.heap.size)∨(i<j∧((ok k∧¬ okp k)∧k≠g∧k<W.heap.size)∧f k=j-1))
  hb' hnew (by rw [hlen];exact hle) hm' hcs' (by rcases hg' with rfl | h2;exact okg.1;exact hfresh _ h2) ?_ ?_ ?_
 ·rwa [hlen] at t
 ·intro a b k h1 h2
  rcases h1 with ⟨a1,a2,a3⟩ | ⟨a1,a2,_⟩ | ⟨a1,a2,a3⟩ <;> rcases h2 with ⟨b1,b2,b3⟩ | ⟨b1,b2,_⟩ | ⟨b1,b2,b3⟩
  ·omega
  ·exact absurd b2 a2.1.2
  ·omega
  ·exact absurd a2 b2.1.2
  ·omega
  ·exact absurd a2 b2.1.2
  ·omega
  ·exact absurd b2 a2.1.2
  ·omega
 ·intro j k h1
  have hk:ok k∧k≠g∧k<W.heap.size:=by
   rcases h1 with ⟨_,a2,_⟩ | ⟨_,a2,a3⟩ | ⟨_,a2,_⟩
   ·exact ⟨a2.1.1,a2.2⟩
   ·exact ⟨(hokp k a2).1,(hokp k a2).2,a3⟩
   ·exact ⟨a2.1.1,a2.2⟩
  refine ⟨hk.1,fun e => ?_⟩
  subst e
  rcases hg' with h2 | h2
  ·exact hk.2.1 h2
  ·have:=hk.2.2;omega
 ·intro j x hj
  have hj2:j<xs.length+1:=by rw [← hlen];exact (List.getElem?_eq_some_iff.1 hj).1
  rw [← seg_take _ j ((xs.length+1)*d.sz) _ (Nat.mul_le_mul_right _ hj2),ht]
  have hti:(xs.take i).length=i:=by rw [List.length_take,Nat.min_eq_left hi]
  unfold insAt at hj
  rcases Nat.lt_trichotomy j i with hlt | heq | hgt
  ·rw [List.append_assoc,seg_left _ _ _ _ (by rw [hA];exact Nat.mul_le_mul_right _ hlt),seg_take _ _ _ _ (Nat.mul_le_mul_right _ hlt)]
   rw [List.append_assoc,List.getElem?_append_left (by rw [hti];exact hlt),List.getElem?_take,if_pos hlt] at hj
   exact d.M_mono (fun k hk => .inl ⟨hlt,hk⟩) (hM1 j x hj)
  ·subst heq
   rw [seg_mid _ _ _ _ _ hA hcl]
   rw [List.append_assoc,List.getElem?_append_right (by rw [hti];exact Nat.le_refl _),hti,Nat.sub_self] at hj
   obtain rfl:p=x:=by simpa using hj
   exact d.M_mono (fun k hk => .inr (.inl ⟨rfl,hk⟩)) hP1
  ·obtain ⟨m,rfl⟩:∃ m,j=i+1+m:=⟨j-i-1,by omega⟩
   rw [seg_right _ _ _ _ _ _ hA hcl,List.drop_drop,← Nat.add_mul,seg_take _ _ _ _ (Nat.mul_le_mul_right _ (by omega))]
   have e1:(xs.take i++[p]).length=i+1:=by rw [List.length_append,hti];rfl
   rw [List.getElem?_append_right (by rw [e1];omega),e1,List.getElem?_drop,show i+(i+1+m-(i+1))=i+m by omega] at hj
   exact d.M_mono (fun k hk => .inr (.inr ⟨by omega,hk.1,by rw [hk.2];omega⟩)) (hM1 (i+m) x hj)
end
theorem S_ints {e base:Nat} {ok:Nat→Prop} {w:World} {v:Value} {xs:List Int} (h:Kd.R (Kd.int .i64) e w base ok v xs):Kd.S (Kd.int .i64) e w base ok v xs:=by
 obtain ⟨h0,inner,ho,hr⟩:=h
 refine ⟨fun _=>0,h0,inner,by rw [List.length_zipIdx];exact ho,by rw [List.length_zipIdx];exact hr.1,fun j p hj => ?_⟩
 rw [List.getElem?_zipIdx,Nat.zero_add] at hj
 obtain ⟨x,hx,rfl⟩:=Option.map_eq_some_iff.1 hj
 exact hr.2 j x hx
def frz {α:Type} (d:Kd α) (W0:World) (base:Nat) (okx:Nat→Prop):Kd α where
 sz:=d.sz
 E:=d.E
 K:=fun _ x cs=>d.M W0 base okx x cs
 M:=fun _ _ _ x cs=>d.M W0 base okx x cs
 K_len:=fun h=>d.K_len (d.K_of_M h)
 K_one:=fun h=>d.K_one (d.K_of_M h)
 K_below:=fun _ h=>h
 K_of_M:=fun h=>h
 M_mono:=fun _ h=>h
 M_bound:=fun h=>h
 M_move:=fun _ h=>h
 M_lower:=fun _ h=>h
section
variable {α:Type} {d:Kd α} {e base n c:Nat} {ok:Nat→Prop} {W w1:World} {xs:List α} {A:Option Addr} {v:Value} {f:Nat→Nat} {ps:List (α×Nat)}
theorem S_frz (h:Kd.S d e W base ok (.slice A n c) xs):∃ f:Nat→Nat,n=xs.length∧n≤c∧(frz (Kd.tag f d) W base (fun k=>ok k∧some k≠(Value.slice A n c).ownBlock)).C W A xs.zipIdx.length xs.zipIdx:=by
 obtain ⟨f,h0,ho⟩:=h
 obtain ⟨A',c',hv,hle,hr⟩:=ho.reads
 injection hv with h1 h2 h3
 subst h1
 subst h3
 rw [List.length_zipIdx] at h2 hle
 exact ⟨f,h2,by omega,hr⟩
theorem frz_M (hb:Below W.heap.size W w1) {okx:Nat→Prop} {p:α} {cs:List Value} (h:d.M W base okx p cs):d.M w1 base (fun k=>okx k∧k<W.heap.size) p cs :=
 d.M_mono (fun k hk=>⟨hk.1,hk.2.2.1⟩) (d.M_move (fun k hk=>hb.block k hk.2.2.1) (d.M_bound h))
theorem S_ofTags (h:(Kd.tag f d).R e W base ok v ps) (hnd:(ps.map Prod.snd).Nodup):Kd.S d e W base ok v (ps.map Prod.fst):=by
 obtain ⟨h0,inner,ho,hr⟩:=h
 refine ⟨fun k=>(ps.map Prod.snd).idxOf (f k),h0,inner,by rw [List.length_zipIdx,List.length_map];exact ho,by rw [List.length_zipIdx,List.length_map];exact hr.1,fun j p hj => ?_⟩
 rw [List.getElem?_zipIdx,Nat.zero_add] at hj
 obtain ⟨x,hx,rfl⟩:=Option.map_eq_some_iff.1 hj
 rw [List.getElem?_map] at hx
 obtain ⟨q,hq,rfl⟩:=Option.map_eq_some_iff.1 hx
 obtain ⟨hjl,hqe⟩:=List.getElem?_eq_some_iff.1 hq
 refine d.M_mono (fun k hk=>⟨hk.1,?_⟩) (hr.2 j q hq)
 have hl:j<(ps.map Prod.snd).length:=by rw [List.length_map];exact hjl
 have e1:(ps.map Prod.snd)[j]=f k:=by rw [List.getElem_map,hqe];exact hk.2.symm
 show (ps.map Prod.snd).idxOf (f k)=j
 rw [← e1]
 exact hnd.idxOf_getElem j hl
theorem C_takeA {β:Type} {k:Kd β} {ys:List β} {j:Nat} (h:k.C W A ys.length ys) (hj:j≤ys.length):k.C W A j (ys.take j):=by
 have:=Kd.C_take h hj
 rwa [List.length_take,Nat.min_eq_left hj] at this
theorem C_dropA {β:Type} {k:Kd β} {ys:List β} {ad:Addr} {j c:Nat} (h:k.C W (some ad) ys.length ys) (hj:j≤ys.length) (hc:ys.length≤c):k.C W (if c=j then some ad else some (ad.add (j*k.sz))) (ys.length-j) (ys.drop j):=by
 have:=Kd.C_drop h hj hc
 rw [List.length_drop] at this
 exact this
theorem frz_M2 (hb:Below W.heap.size W w1) {okx:Nat→Prop} {p:α} {cs:List Value} (h:d.M W base okx p cs):d.M w1 base (fun k=>k<W.heap.size) p cs:=d.M_mono (fun _ hk=>hk.2) (frz_M hb h)
theorem own_at {g n c q:Nat} (h:(Value.slice (some ⟨g,0,none⟩) n c).ownBlock=some q):g=q:=by simpa [Value.ownBlock] using h
theorem own_next {v v1:Value} {B m:Nat} (hat:v1.ownBlock=v.ownBlock∨∃ b,v1.ownBlock=some b∧m≤b) (hv:∀ j,v.ownBlock=some j→B≤j) (hB:B≤m):∀ j,v1.ownBlock=some j→B≤j:=fun j hj=>by
 rcases hat with h | ⟨q,h,hq⟩
 ·exact hv j (h ▸ hj)
 ·rw [h] at hj
  have:=Option.some.inj hj
  omega
theorem lenZ {l:List α} {k:Nat} (h:k≤l.length):(l.zipIdx.take k).length=k:=by rw [List.length_take,List.length_zipIdx];omega
theorem lenT {β:Type} {l:List β} {k:Nat} (h:k≤l.length):(l.take k).length=k:=by rw [List.length_take];omega
theorem zip_nodup (xs:List α):(xs.zipIdx.map Prod.snd).Nodup:=by
 rw [List.zipIdx_map_snd]
 exact List.nodup_range' ..
theorem zip_del_nodup (xs:List α) (k:Nat):((xs.zipIdx.take k++xs.zipIdx.drop (k+1)).map Prod.snd).Nodup:=by
 refine (zip_nodup xs).sublist (List.Sublist.map _ ?_)
 exact delAt_sub k xs.zipIdx
theorem zip_del_fst (xs:List α) (k:Nat):(xs.zipIdx.take k++xs.zipIdx.drop (k+1)).map Prod.fst=delAt k xs:=by
 rw [List.map_append,List.map_take,List.map_drop,List.zipIdx_map_fst]
 rfl
end
section
variable {P:Program} {ops:Array Oper} {rest:List Oper} {o:Oper} {a:Act} {w:World} {Q:Exit→Act→World→Prop}
theorem copy_list (hgd:o.guard=none) (d s:Operand) (t t':TypeId) (ho:o.op = .call { callee := .builtin .copy,args := #[d,s],argTypes := #[t,t'] }) (v u:Value) (hd:a.eval d=v) (hs:a.eval s=u) {v':Value} {w':World}
  (hr:(Builtin.copy_ #[t,t'] o.type #[v,u]).run P w = .ok v' w') (h:wpList P ops Q rest (a.put o.dst v') w'):wpList P ops Q (o :: rest) a w :=
 wpList_plain hgd fun _ hK=>by
  unfold Oper.wp execOp
  simp only [ho,resolve,invoke,builtin,Sem.run_bind,Sem.run_pure,Result.andThen_ok,List.map_toArray,List.map_cons,List.map_nil,hd,hs,hr]
  exact hK _ _ h
theorem copy_step {K:Act→World→Prop} {E:Prop} (hg:o.guard=none) (d x:Operand) (t t':TypeId) (ho:o.op = .call { callee := .builtin .copy,args := #[d,x],argTypes := #[t,t'] })
  (v u:Value) (hd:a.eval d=v) (hx:a.eval x=u) {v':Value} {w':World} (hr:(Builtin.copy_ #[t,t'] o.type #[v,u]).run P w = .ok v' w') (hK:K (a.put o.dst v') w') :
  if Region.wanted o (yielded ops a.tmps)=true then Oper.wp P o a w K Q else E:=by
 have hw:Region.wanted o (yielded ops a.tmps)=true:=by simp [Region.wanted,hg]
 rw [if_pos hw]
 unfold Oper.wp execOp
 simp only [ho,resolve,invoke,builtin,Sem.run_bind,Sem.run_pure,Result.andThen_ok,List.map_toArray,List.map_cons,List.map_nil,hd,hx,hr]
 exact hK
end
theorem row_cellL {w:World} {g o j:Nat} {cur:Array Value} {e:TypeId} {v:Value} (h:w.heap[g]? = some (.cells cur e (0,0))) (hj:cur.toList[o+j]? = some v):w.cell? ((⟨g,o,none⟩:Addr).add j)=some v:=by
 rw [Addr.add_lit,cell_of_row w g (o+j) cur e (0,0) h,← Array.getElem?_toList]
 exact hj
theorem take_len {β:Type} {l:List β} {n:Nat} (h:n≤l.length):(l.take n).length=n:=by rw [List.length_take];omega
theorem put_take {β:Type} (A cs D:List β) (m:Nat) (hA:A.length=m):(A++cs++D).take (m+cs.length)=A++cs:=by
 have:(A++cs).length=m+cs.length:=by rw [List.length_append,hA]
 rw [← this,List.take_left' rfl]
theorem below_row {B:Nat} {w w1:World} {N:Nat} (h:Below B w w1) (hB:B≤w1.heap.size) (hN:B≤N) (cells:Array Value):Below B w (w1.setRow N cells) :=
 h.grown (grown_setRow w1 N cells) hB (fun k hk=>by injection hk with hk;omega)
theorem S_one {α:Type} {d:Kd α} {e base n c g:Nat} {ok:Nat→Prop} {W:World} {xs:List α} {cur:Array Value} (h:Kd.S d e W base ok (.slice (some ⟨g,0,none⟩) n c) xs) (hc:W.heap[g]? = some (.cells cur e (0,0))) (hs0:0<d.sz):∀ u∈cur.toList.take (n*d.sz),u.oneCell'=true:=by
 obtain ⟨hn,hb,hlt,hnc,hm,okg,cur0,hh,hcs,f,hM⟩:=S_cur h
 obtain rfl:cur0=cur:=by rw [hh] at hc;cases hc;rfl
 intro u hu
 obtain ⟨q,hq,rfl⟩:=List.mem_iff_getElem.1 hu
 have hql:q<n*d.sz:=by rw [List.length_take] at hq;omega
 have hj:q / d.sz<xs.length:=by rw [← hn,Nat.div_lt_iff_lt_mul hs0];exact hql
 refine d.K_one (d.K_of_M (hM (q / d.sz) _ (List.getElem?_eq_getElem hj))) _ ?_
 rw [List.mem_iff_getElem?]
 refine ⟨q % d.sz,?_⟩
 rw [List.getElem?_take,if_pos (Nat.mod_lt _ hs0),List.getElem?_drop,Nat.mul_comm,Nat.div_add_mod,List.getElem_take,List.getElem?_eq_getElem]
theorem ins_grow (P:Program) (tS tI e:TypeId) (i0:TypeInfo) (z:Value) (sz bytes:Nat) (htS:P.underlying tS=some (.slice e)) (htI:P.underlying tI=some (.int .i64)) (hi0:P.info? e=some i0) (hz:i0.zero=some z) (hsz:i0.size=sz) (hby:i0.bytes=bytes) (hzc:z.cells.size=sz) (hs0:0<sz) (hb0:bytes≤1000)
  (g c i:Nat) (cur:Array Value) (cs:List Value) (W:World) (hc:W.heap[g]? = some (.cells cur e (0,0))) (hs:cur.size=c*sz) (hi:i<c) (hn:c≤1000) (hcl:cs.length=sz) (h1:∀ u∈cs,u.oneCell'=true) (h1c:∀ u∈cur.toList.take (c*sz),u.oneCell'=true) :
  ∃ (G:Nat) (W1 W2 W3:World) (cur':Array Value),
   (∀ ty,(Builtin.append_ #[tS,tI] ty #[.slice (some ⟨g,0,none⟩) i c, .int .i64 ((c+1-i:Nat):Int)]).run P (W.alloc (.cells cs.toArray e)) = .ok (.slice (some ⟨W.heap.size+1,0,none⟩) (c+1) G) W1) ∧
   (∀ ty,(Builtin.copy_ #[tS,tS] ty #[.slice (some ⟨W.heap.size+1,i*sz,none⟩) (c+1-i) (G-i), .slice (some ⟨W.heap.size,0,none⟩) 1 1]).run P W1 = .ok (goInt 1) W2) ∧
   (∀ ty,(Builtin.copy_ #[tS,tS] ty #[.slice (some ⟨W.heap.size+1,(i+1)*sz,none⟩) (c-i) (G-(i+1)), .slice (some ⟨g,i*sz,none⟩) (c-i) (c-i)]).run P W2.drew = .ok (goInt ((c-i:Nat):Int)) W3) ∧
   W3.heap[W.heap.size+1]? = some (.cells cur' e (0,0))∧cur'.size=G*sz∧c+1≤G∧G≤maxLen ∧
   cur'.toList.take ((c+1)*sz)=cur.toList.take (i*sz)++cs++(cur.toList.take (c*sz)).drop (i*sz)∧Below W.heap.size W W3:=by
 obtain ⟨w0,hw0⟩:∃ w0,w0=W.alloc (.cells cs.toArray e):=⟨_,rfl⟩
 have hN:w0.heap.size=W.heap.size+1:=by rw [hw0];simp
 have hB0:Below W.heap.size W w0:=by rw [hw0];exact below_alloc (Below.refl _ _) _
 have hc0:w0.heap[g]? = some (.cells cur e (0,0)):=by rw [hw0];exact blk_alloc hc _
 have hv0:w0.heap[W.heap.size]? = some (.cells cs.toArray e (0,0)):=by rw [hw0];exact blk_new _ _
 have hcurl:cur.toList.length=c*sz:=by rw [Array.length_toList,hs]
 have hisz:i*sz≤c*sz:=Nat.mul_le_mul_right _ (by omega)
 have hOl:(cur.toList.take (i*sz)).length=i*sz:=take_len (by omega)
 have hgr:c<i+(c+1-i):=by omega
 have hsum:i+(c+1-i)=c+1:=by omega
 have hap:=fun ty=>Go.Lib.run_append_grow_zeros (P:=P) w0 tS tI ty e i0 z .i64 .i64 htS htI hi0 hz (some ⟨g,0,none⟩) i c (cur.toList.take (i*sz)) (by
  rw [hsz]
  exact run_firstCells_some (P:=P) w0.drew sz i ⟨g,0,none⟩ i c _ hOl (fun j v hj=>by
   refine row_cellL (w:=w0.drew) hc0 ?_
   rw [Nat.zero_add]
   rw [List.getElem?_take] at hj
   split at hj
   ·exact hj
   ·cases hj)) (c+1-i) (by omega) (by rw [hsz];exact hs0) hgr (by omega) (by
    rw [hby]
    have:(c+1-i)*bytes≤1001*1000:=Nat.mul_le_mul (by omega) hb0
    omega) (by
    rw [hby]
    refine growslice_fits hgr ?_
    have:(i+(c+1-i))*bytes≤1001*1000:=Nat.mul_le_mul (by omega) hb0
    omega)
 rw [hsum,hN] at hap
 obtain ⟨G,hG⟩:∃ G,G=grownCap w0 (c+1) c e:=⟨_,rfl⟩
 rw [← hG] at hap
 have hG1:c+1≤G:=by rw [hG];exact grownCap_ge w0 _ _ _
 have hG2:G≤maxLen:=by rw [hG];exact grownCap_le_maxLen w0 _ _ _ (by unfold maxLen;omega)
 obtain ⟨Z,hZ⟩:∃ Z:List Value,Z=(Builtin.zeroCells z.cells (c+1-i)).toList++(Builtin.zeroCells z.cells (G-(c+1))).toList:=⟨_,rfl⟩
 obtain ⟨R1,hR1⟩:∃ R1:Array Value,R1=((cur.toList.take (i*sz)).toArray++Builtin.zeroCells z.cells (c+1-i)++Builtin.zeroCells z.cells (G-(c+1))):=⟨_,rfl⟩
 rw [← hR1] at hap
 have hR1l:R1.toList=cur.toList.take (i*sz)++Z:=by rw [hR1,hZ];simp
 have hzl:∀ n,(Builtin.zeroCells z.cells n).size=n*sz:=fun n=>by simp [Builtin.zeroCells,hzc]
 have hR1s:R1.size=G*sz:=by
  rw [hR1]
  simp only [Array.size_append,List.size_toArray,hOl,hzl]
  rw [← Nat.add_mul,← Nat.add_mul]
  congr 1
  omega
 obtain ⟨W1,hW1⟩:∃ W1,W1=w0.drew.alloc (.cells R1 e):=⟨_,rfl⟩
 rw [← hW1] at hap
 have hd:w0.drew.heap.size=W.heap.size+1:=hN
 have hB1:Below W.heap.size W W1:=by rw [hW1];exact below_alloc (pw_below_drewN hB0 1) _
 have hN1:W1.heap[W.heap.size+1]? = some (.cells R1 e (0,0)):=by
  have t:=blk_new w0.drew (.cells R1 e)
  rw [hd] at t
  rw [hW1]
  exact t
 have hv1:W1.heap[W.heap.size]? = some (.cells cs.toArray e (0,0)):=by rw [hW1];exact blk_alloc (w:=w0.drew) hv0 _
 have hc1:W1.heap[g]? = some (.cells cur e (0,0)):=by rw [hW1];exact blk_alloc (w:=w0.drew) hc0 _
 have hGs:(c+1)*sz≤G*sz:=Nat.mul_le_mul_right _ hG1
 have his:(i+1)*sz=i*sz+sz:=Nat.succ_mul _ _
 have hi1:(i+1)*sz≤c*sz:=Nat.mul_le_mul_right _ hi
 have hcsz:(c+1)*sz=c*sz+sz:=Nat.succ_mul _ _
 have hinfo:(P.info? e).map (·.size)=some sz:=by rw [hi0];simp [hsz]
 have hm1:Nat.min 1 (c+1-i)=1:=Nat.min_eq_left (by omega)
 have hcp1:=fun ty=>run_copy_k P W1 tS tS ty e sz (W.heap.size+1) (i*sz) (c+1-i) (G-i) ⟨W.heap.size,0,none⟩ 1 1 R1 e cs htS hinfo hN1 (by rw [hm1,Nat.one_mul,hcl])
  (fun j v hj=>row_cellL hv1 (by rw [Nat.zero_add];exact hj)) (by omega) h1
 rw [hm1] at hcp1
 obtain ⟨R2,hR2⟩:∃ R2:Array Value,R2=(R1.toList.take (i*sz)++cs++R1.toList.drop (i*sz+cs.length)).toArray:=⟨_,rfl⟩
 rw [← hR2] at hcp1
 obtain ⟨W2,hW2⟩:∃ W2,W2=W1.setRow (W.heap.size+1) R2:=⟨_,rfl⟩
 rw [← hW2] at hcp1
 have hR1len:R1.toList.length=G*sz:=by rw [Array.length_toList,hR1s]
 have hR2l:R2.toList=cur.toList.take (i*sz)++cs++R1.toList.drop (i*sz+cs.length):=by
  rw [hR2]
  show R1.toList.take (i*sz)++cs++_=_
  rw [show R1.toList.take (i*sz)=cur.toList.take (i*sz) by rw [hR1l,List.take_left' hOl]]
 have hR2len:R2.toList.length=G*sz:=by
  rw [hR2l,List.length_append,List.length_append,hOl,List.length_drop,hR1len,hcl]
  omega
 have hN2:W2.heap[W.heap.size+1]? = some (.cells R2 e (0,0)):=by rw [hW2];exact setRow_heap W1 _ R1 _ e (0,0) hN1
 have hgN:g<W.heap.size:=blk_lt hc
 have hc2:W2.heap[g]? = some (.cells cur e (0,0)):=by
  rw [hW2,(grown_setRow W1 (W.heap.size+1) R2).block g (blk_lt hc1) (fun e=>by injection e with e;omega)]
  exact hc1
 have hB2:Below W.heap.size W W2:=by rw [hW2];exact below_row hB1 hB1.size (by omega) _
 have hnews:((cur.toList.take (c*sz)).drop (i*sz)).length=(c-i)*sz:=by rw [List.length_drop,take_len (by omega),Nat.sub_mul]
 have hm2:Nat.min (c-i) (c-i)=c-i:=Nat.min_self _
 have hcp2:=fun ty=>run_copy_k P W2.drew tS tS ty e sz (W.heap.size+1) ((i+1)*sz) (c-i) (G-(i+1)) ⟨g,i*sz,none⟩ (c-i) (c-i) R2 e ((cur.toList.take (c*sz)).drop (i*sz)) htS hinfo hN2 (by rw [hm2,hnews])
  (fun j v hj=>row_cellL (w:=W2.drew) hc2 (by
   rw [List.getElem?_drop,List.getElem?_take] at hj
   split at hj
   ·exact hj
   ·cases hj)) (by
   rw [hnews,← Array.length_toList,hR2len,Nat.sub_mul]
   omega) (fun u hu=>h1c u (List.mem_of_mem_drop hu))
 rw [hm2] at hcp2
 obtain ⟨R3,hR3⟩:∃ R3:Array Value,R3=(R2.toList.take ((i+1)*sz)++(cur.toList.take (c*sz)).drop (i*sz)++R2.toList.drop ((i+1)*sz+((cur.toList.take (c*sz)).drop (i*sz)).length)).toArray:=⟨_,rfl⟩
 rw [← hR3] at hcp2
 obtain ⟨W3,hW3⟩:∃ W3,W3=W2.drew.setRow (W.heap.size+1) R3:=⟨_,rfl⟩
 rw [← hW3] at hcp2
 have hR2t:R2.toList.take ((i+1)*sz)=cur.toList.take (i*sz)++cs:=by
  rw [hR2l,his,← hcl]
  exact put_take _ _ _ _ (by rw [hcl];exact hOl)
 have hR3l:R3.toList=cur.toList.take (i*sz)++cs++(cur.toList.take (c*sz)).drop (i*sz)++R2.toList.drop ((i+1)*sz+((cur.toList.take (c*sz)).drop (i*sz)).length):=by
  rw [hR3]
  show R2.toList.take ((i+1)*sz)++_++_=_
  rw [hR2t]
 refine ⟨G,W1,W2,W3,R3,by rw [hw0] at hap;exact hap,hcp1,hcp2,?_,?_,hG1,hG2,?_,?_⟩
 ·rw [hW3];exact setRow_heap W2.drew _ R2 _ e (0,0) hN2
 ·rw [← Array.length_toList,hR3l,List.length_append,List.length_append,List.length_append,hOl,hcl,hnews,List.length_drop,hR2len,Nat.sub_mul]
  omega
 ·rw [hR3l]
  refine List.take_left' ?_
  rw [List.length_append,List.length_append,hOl,hcl,hnews,Nat.sub_mul]
  omega
 ·rw [hW3]
  have hB2d:Below W.heap.size W W2.drew:=pw_below_drewN hB2 1
  exact below_row hB2d hB2d.size (by omega) _
theorem ins_room (P:Program) (tS e:TypeId) (sz:Nat) (htS:P.underlying tS=some (.slice e)) (hinfo:(P.info? e).map (·.size)=some sz)
  (g n c i:Nat) (cur:Array Value) (cs:List Value) (W:World) (hc:W.heap[g]? = some (.cells cur e (0,0))) (hs:cur.size=c*sz) (hi:i<n) (hroom:n+1≤c) (hcl:cs.length=sz) (h1:∀ u∈cs,u.oneCell'=true) (h1c:∀ u∈cur.toList.take (n*sz),u.oneCell'=true) :
  ∃ (W1 W2:World) (cur':Array Value),
   (∀ ty,(Builtin.copy_ #[tS,tS] ty #[.slice (some ⟨g,(i+1)*sz,none⟩) (n-i) (c-(i+1)), .slice (some ⟨g,i*sz,none⟩) (n+1-i) (c-i)]).run P (W.alloc (.cells cs.toArray e)).drew = .ok (goInt ((n-i:Nat):Int)) W1) ∧
   (∀ ty,(Builtin.copy_ #[tS,tS] ty #[.slice (some ⟨g,i*sz,none⟩) (n+1-i) (c-i), .slice (some ⟨W.heap.size,0,none⟩) 1 1]).run P W1 = .ok (goInt 1) W2) ∧
   W2.heap[g]? = some (.cells cur' e (0,0))∧cur'.size=c*sz ∧
   cur'.toList.take ((n+1)*sz)=cur.toList.take (i*sz)++cs++(cur.toList.take (n*sz)).drop (i*sz)∧(W.alloc (.cells cs.toArray e)).grownBy W2 (some g):=by
 obtain ⟨w0,hw0⟩:∃ w0,w0=W.alloc (.cells cs.toArray e):=⟨_,rfl⟩
 have hc0:w0.heap[g]? = some (.cells cur e (0,0)):=by rw [hw0];exact blk_alloc hc _
 have hv0:w0.heap[W.heap.size]? = some (.cells cs.toArray e (0,0)):=by rw [hw0];exact blk_new _ _
 have hgN:g<W.heap.size:=blk_lt hc
 rw [← hw0]
 have hcurl:cur.toList.length=c*sz:=by rw [Array.length_toList,hs]
 have hnc:(n+1)*sz≤c*sz:=Nat.mul_le_mul_right _ hroom
 have hns:(n+1)*sz=n*sz+sz:=Nat.succ_mul _ _
 have hin:i*sz≤n*sz:=Nat.mul_le_mul_right _ (by omega)
 have his:(i+1)*sz=i*sz+sz:=Nat.succ_mul _ _
 have hi1:(i+1)*sz≤n*sz:=Nat.mul_le_mul_right _ hi
 have hOl:(cur.toList.take (i*sz)).length=i*sz:=take_len (by omega)
 have hnews:((cur.toList.take (n*sz)).drop (i*sz)).length=(n-i)*sz:=by rw [List.length_drop,take_len (by omega),Nat.sub_mul]
 have hm1:Nat.min (n+1-i) (n-i)=n-i:=Nat.min_eq_right (by omega)
 have hcp1:=fun ty=>run_copy_k P w0.drew tS tS ty e sz g ((i+1)*sz) (n-i) (c-(i+1)) ⟨g,i*sz,none⟩ (n+1-i) (c-i) cur e ((cur.toList.take (n*sz)).drop (i*sz)) htS hinfo hc0 (by rw [hm1,hnews])
  (fun j v hj=>row_cellL (w:=w0.drew) hc0 (by
   rw [List.getElem?_drop,List.getElem?_take] at hj
   split at hj
   ·exact hj
   ·cases hj)) (by rw [hnews,hs,Nat.sub_mul];omega) (fun u hu=>h1c u (List.mem_of_mem_drop hu))
 rw [hm1] at hcp1
 obtain ⟨R1,hR1⟩:∃ R1:Array Value,R1=(cur.toList.take ((i+1)*sz)++(cur.toList.take (n*sz)).drop (i*sz)++cur.toList.drop ((i+1)*sz+((cur.toList.take (n*sz)).drop (i*sz)).length)).toArray:=⟨_,rfl⟩
 rw [← hR1] at hcp1
 obtain ⟨W1,hW1⟩:∃ W1,W1=w0.drew.setRow g R1:=⟨_,rfl⟩
 rw [← hW1] at hcp1
 have hR1l:R1.toList=cur.toList.take ((i+1)*sz)++(cur.toList.take (n*sz)).drop (i*sz)++cur.toList.drop ((i+1)*sz+((cur.toList.take (n*sz)).drop (i*sz)).length):=by rw [hR1]
 have hOl1:(cur.toList.take ((i+1)*sz)).length=(i+1)*sz:=take_len (by omega)
 have hR1len:R1.toList.length=c*sz:=by
  rw [hR1l,List.length_append,List.length_append,hOl1,hnews,List.length_drop,hcurl,Nat.sub_mul]
  omega
 have hg1:W1.heap[g]? = some (.cells R1 e (0,0)):=by rw [hW1];exact setRow_heap w0.drew _ cur _ e (0,0) hc0
 have hv1:W1.heap[W.heap.size]? = some (.cells cs.toArray e (0,0)):=by
  rw [hW1,(grown_setRow w0.drew g R1).block W.heap.size (blk_lt hv0) (fun e=>by injection e with e;omega)]
  exact hv0
 have hm2:Nat.min 1 (n+1-i)=1:=Nat.min_eq_left (by omega)
 have hcp2:=fun ty=>run_copy_k P W1 tS tS ty e sz g (i*sz) (n+1-i) (c-i) ⟨W.heap.size,0,none⟩ 1 1 R1 e cs htS hinfo hg1 (by rw [hm2,Nat.one_mul,hcl])
  (fun j v hj=>row_cellL hv1 (by rw [Nat.zero_add];exact hj)) (by rw [← Array.length_toList,hR1len,hcl];omega) h1
 rw [hm2] at hcp2
 obtain ⟨R2,hR2⟩:∃ R2:Array Value,R2=(R1.toList.take (i*sz)++cs++R1.toList.drop (i*sz+cs.length)).toArray:=⟨_,rfl⟩
 rw [← hR2] at hcp2
 obtain ⟨W2,hW2⟩:∃ W2,W2=W1.setRow g R2:=⟨_,rfl⟩
 rw [← hW2] at hcp2
 have hR1t:R1.toList.take (i*sz)=cur.toList.take (i*sz):=by
  rw [hR1l,List.append_assoc,List.take_append_of_le_length (by rw [hOl1];omega),List.take_take,Nat.min_eq_left (by omega)]
 have hR2l:R2.toList=cur.toList.take (i*sz)++cs++R1.toList.drop (i*sz+cs.length):=by rw [hR2];show R1.toList.take (i*sz)++cs++_=_;rw [hR1t]
 have hR1d:R1.toList.drop (i*sz+cs.length)=(cur.toList.take (n*sz)).drop (i*sz)++cur.toList.drop ((i+1)*sz+((cur.toList.take (n*sz)).drop (i*sz)).length):=by
  rw [hR1l,List.append_assoc,hcl,← his]
  exact List.drop_left' hOl1
 refine ⟨W1,W2,R2,hcp1,hcp2,?_,?_,?_,?_⟩
 ·rw [hW2];exact setRow_heap W1 _ R1 _ e (0,0) hg1
 ·rw [← Array.length_toList,hR2l,List.length_append,List.length_append,hOl,hcl,List.length_drop,hR1len]
  omega
 ·rw [hR2l,hR1d,← List.append_assoc]
  refine List.take_left' ?_
  rw [List.length_append,List.length_append,hOl,hcl,hnews,Nat.sub_mul]
  omega
 ·have t1:w0.grownBy W1 (some g):=by
   have t:=grown_setRow w0.drew g R1
   rw [← hW1] at t
   exact ⟨t.os,t.tape,t.output,t.size,t.block⟩
  have t2:=grown_setRow W1 g R2
  rw [← hW2] at t2
  exact ⟨t2.os.trans t1.os,t2.tape.trans t1.tape,t2.output.trans t1.output,Nat.le_trans t1.size t2.size,fun k hk hne=>(t2.block k (Nat.lt_of_lt_of_le hk t1.size) hne).trans (t1.block k hk hne)⟩
end Go.Proofs.YthcpbojmalgdbaaGreatDoor.Q
