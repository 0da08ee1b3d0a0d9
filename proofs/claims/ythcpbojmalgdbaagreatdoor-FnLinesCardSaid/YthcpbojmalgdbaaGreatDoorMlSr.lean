/- Merged out of this seat's own texts. -/
import Derived.Test.YthcpbojmalgdbaaGreatDoorMlWb
set_option linter.unusedVariables false
set_option linter.unusedSimpArgs false
namespace Go.Proofs.YthcpbojmalgdbaaGreatDoor.Q
open Go.Proofs.YthcpbojmalgdbaaGreatDoorW.PrintLast
section
variable {P:Program} {ops:Array Oper} {Q:Exit→Act→World→Prop} {md:Region.Mode} {S:World→Prop} {ds:List Nat}
theorem at_drop {i:Nat} {o:Oper} {r:List Oper} (h:ops.toList.drop i=o :: r):ops[i]? = some o:=by
 have e:(ops.toList.drop i)[0]? = some o:=by rw [h];rfl
 rw [List.getElem?_drop,Nat.add_zero,Array.getElem?_toList] at e
 exact e
theorem pureA (i:Nat) {N:Option Tmp} {oi:Oper} {ri:List Oper} {v:Value} {fuel:Nat} {l l':Array Bool} {a a':Act} {w:World}
  (hi:ops.toList.drop i=oi :: ri:=by rfl) (hN:oi.dst=N:=by rfl) (hl:l.setIfInBounds i true=l':=by simp only [List.setIfInBounds_toArray,List.set_cons_zero,List.set_cons_succ];rfl)
  (hc:anyB md ops l l' i=true:=by kernel_rfl) (hQ:∀ c a w,Q (.panic c) (a.put oi.dst v) w→Q (.panic c) a w:=by intro _ _ _ h;exact h)
  (hy:Yields P ops oi v a:=by refine Or.inl ⟨by rfl,?_⟩;intro w';go_simp;try with_reducible rfl)
  (ha:a.put N v=a':=by (try simp only [Act.put,List.setIfInBounds_toArray,List.set_cons_zero,List.set_cons_succ]);rfl)
  (h:wpAnyLast P md ops Q S ds fuel l' a' w):wpAnyLast P md ops Q S ds (fuel+1) l a w:=pure_ l' (at_drop hi) hN hc hQ hy ha h
theorem takeA (i:Nat) {N:Option Tmp} {oi:Oper} {ri:List Oper} {v:Value} {fuel:Nat} {l l':Array Bool} {a a':Act} {w:World} (hS:S w)
  (hi:ops.toList.drop i=oi :: ri:=by rfl) (hN:oi.dst=N:=by rfl) (hl:l.setIfInBounds i true=l':=by simp only [List.setIfInBounds_toArray,List.set_cons_zero,List.set_cons_succ];rfl)
  (hc:takeB md ops ds l l' i=true:=by kernel_rfl) (hQ:∀ c a w,Q (.panic c) (a.put oi.dst v) w→Q (.panic c) a w:=by intro _ _ _ h;exact h)
  (hy:YieldsIf P ops S oi v a:=by refine Or.inl ⟨by rfl,?_⟩;intro w' hs;go_simp;try with_reducible rfl)
  (ha:a.put N v=a':=by (try simp only [Act.put,List.setIfInBounds_toArray,List.set_cons_zero,List.set_cons_succ]);rfl)
  (h:wpAnyLast P md ops Q S ds fuel l' a' w):wpAnyLast P md ops Q S ds (fuel+1) l a w:=take_ l' (at_drop hi) hN hc hQ hy hS ha h
theorem oneA (i:Nat) {N:Option Tmp} {oi:Oper} {ri:List Oper} {fuel:Nat} {l l':Array Bool} {a a0:Act} {w:World}
  (hi:ops.toList.drop i=oi :: ri:=by rfl) (hN:oi.dst=N:=by rfl) (hl:l.setIfInBounds i true=l':=by simp only [List.setIfInBounds_toArray,List.set_cons_zero,List.set_cons_succ];rfl)
  (hc:readyB md ops l l' i=true:=by kernel_rfl) (hd:i ∉ ds:=by simp) (ha:a=a0:=by (try simp only [Act.put,List.setIfInBounds_toArray,List.set_cons_zero,List.set_cons_succ]);rfl)
  (h:∀ K:Act→World→Prop,Shut (∀ a' w',S w'→(S w'→wpAnyLast P md ops Q S ds fuel l' a' w')→K a' w')→if Region.wanted oi (yielded ops a0.tmps)=true then Oper.wp P oi a0 w K Q else K (a0.put N undef) w) :
  wpAnyLast P md ops Q S ds (fuel+1) l a w:=by subst ha;exact one_ l' (at_drop hi) hN hc hd h
theorem lastA (i:Nat) {N:Option Tmp} {oi:Oper} {ri:List Oper} {fuel:Nat} {l l':Array Bool} {a a0:Act} {w:World}
  (hi:ops.toList.drop i=oi :: ri:=by rfl) (hN:oi.dst=N:=by rfl) (hl:l.setIfInBounds i true=l':=by simp only [List.setIfInBounds_toArray,List.set_cons_zero,List.set_cons_succ];rfl)
  (hc:readyB md ops l l' i=true:=by kernel_rfl) (hd:i∈ds:=by simp) (ha:a=a0:=by (try simp only [Act.put,List.setIfInBounds_toArray,List.set_cons_zero,List.set_cons_succ]);rfl)
  (h:∀ K:Act→World→Prop,Shut (∀ a' w',wpAnyLast P md ops Q S ds fuel l' a' w'→K a' w')→if Region.wanted oi (yielded ops a0.tmps)=true then Oper.wp P oi a0 w K Q else K (a0.put N undef) w) :
  wpAnyLast P md ops Q S ds (fuel+1) l a w:=by subst ha;exact last_ l' (at_drop hi) hN hc hd h
theorem twoA (i j:Nat) {Ni Nj:Option Tmp} {oi oj:Oper} {ri rj:List Oper} {fuel:Nat} {l li lj:Array Bool} {a a0:Act} {w:World}
  (hi:ops.toList.drop i=oi :: ri:=by rfl) (hj:ops.toList.drop j=oj :: rj:=by rfl) (hNi:oi.dst=Ni:=by rfl) (hNj:oj.dst=Nj:=by rfl)
  (hli:l.setIfInBounds i true=li:=by simp only [List.setIfInBounds_toArray,List.set_cons_zero,List.set_cons_succ];rfl) (hlj:l.setIfInBounds j true=lj:=by simp only [List.setIfInBounds_toArray,List.set_cons_zero,List.set_cons_succ];rfl)
  (hc:(Region.ready md ops l == [i,j] && l.setIfInBounds i true == li && l.setIfInBounds j true == lj)=true:=by kernel_rfl) (hdi:i ∉ ds:=by simp) (hdj:j ∉ ds:=by simp)
  (ha:a=a0:=by (try simp only [Act.put,List.setIfInBounds_toArray,List.set_cons_zero,List.set_cons_succ]);rfl)
  (h1:∀ K:Act→World→Prop,Shut (∀ a' w',S w'→(S w'→wpAnyLast P md ops Q S ds fuel li a' w')→K a' w')→if Region.wanted oi (yielded ops a0.tmps)=true then Oper.wp P oi a0 w K Q else K (a0.put Ni undef) w)
  (h2:∀ K:Act→World→Prop,Shut (∀ a' w',S w'→(S w'→wpAnyLast P md ops Q S ds fuel lj a' w')→K a' w')→if Region.wanted oj (yielded ops a0.tmps)=true then Oper.wp P oj a0 w K Q else K (a0.put Nj undef) w) :
  wpAnyLast P md ops Q S ds (fuel+1) l a w:=by subst ha;exact two_ li lj (at_drop hi) (at_drop hj) hNi hNj hc hdi hdj h1 h2
theorem doneA {l:Array Bool} {a a0:Act} {w:World} {n:Nat} (hr:(Region.ready md ops l == [])=true:=by kernel_rfl)
  (ha:a=a0:=by (try simp only [Act.put,List.setIfInBounds_toArray,List.set_cons_zero,List.set_cons_succ]);rfl) (h:Q .normal a0 w):wpAnyLast P md ops Q S ds n l a w:=by subst ha;exact done_ hr h
end
end Go.Proofs.YthcpbojmalgdbaaGreatDoor.Q
