/- Merged out of this seat's own texts. -/
import Derived.Test.YthcpbojmalgdbaaGreatDoorMlA
import Derived.Deep.Slices
import Derived.Deep.Strs
import Derived.Lib.SmallJoins
import Derived.ProofKit
import Derived.DataReads
set_option linter.unusedVariables false
set_option linter.unusedSimpArgs false
namespace Go.Proofs.YthcpbojmalgdbaaGreatDoor.Q
open Go.RowKit Go.Proofs.YthcpbojmalgdbaaGreatDoorW.PrintWords Go.Proofs.YthcpbojmalgdbaaGreatDoor.Core Go.Deep
section
variable {H:Type} {enc:TypeId×Value→H} {w:World} {base:Nat} {spare:Nat→Bool} {held:Bool}
theorem open_list {P:Program} {α:Type} [Inhabited α] (d:Kd α) (good:α→Prop) {t e:TypeId} (ht:P.underlying t=some (.slice e)) (hsz:P.cellsOf e=d.sz)
  (helem:∀ n cs x,DataW.trod enc P w base spare held n e cs=some x→∃ y,d.K w y cs∧good y) {fuel:Nat} {cs:List Value} {x:DataW H×List MemPlace} (h:DataW.trod enc P w base spare held fuel t cs=some x) :
  ∃ (A:Option Addr) (len cap:Nat) (l:List α),cs=[.slice A len cap]∧l.length=len∧len≤cap∧d.C w A len l∧∀ y∈l,good y:=by
 rcases open_slice ht h with ⟨rfl,_⟩ | ⟨a,len,cap,m,n,D,Pl,rfl,_,hl,hm,hm2,_,hel⟩
 ·exact ⟨none,0,0,[],rfl,rfl,Nat.le_refl _,⟨rfl,by omega,fun h=>absurd h (by omega)⟩,by simp⟩
 ·have hlm:len≤m:=by rw [hm2];split <;> omega
  obtain ⟨f,hf⟩:=choose_lt (n:=len) (p:=fun i y=>good y∧∃ cs',w.cells? base (a.add (i*P.cellsOf e)) (P.cellsOf e)=some cs'∧d.K w y cs') (fun i hi=>by
   obtain ⟨cs',hc,htr⟩:=hel i (by omega)
   obtain ⟨y,hy,hg⟩:=helem _ _ _ htr
   exact ⟨y,hg,cs',hc,hy⟩)
  refine ⟨some a,len,cap,(List.range len).map f,rfl,by simp,hl,⟨by simp,by simp only [maxLen] at hm;omega,fun _=>⟨a,rfl,fun j p hj => ?_⟩⟩,fun y hy => ?_⟩
  ·have hjl:j<len:=by have:=some_lt hj;simpa using this
   have hp:f j=p:=by
    rw [List.getElem?_map,List.getElem?_range hjl] at hj
    exact Option.some.inj hj
   obtain ⟨_,cs',hc,hK⟩:=hf j hjl
   obtain ⟨_,hlen,hcell⟩:=World.cells?_some hc
   refine ⟨cs',by rw [hlen,hsz],by rw [← hp];exact hK,fun i u hu => ?_⟩
   have:=hcell i (by rw [← hlen];exact some_lt hu)
   rw [Deep.add_add,hsz,hu] at this
   exact this
  ·obtain ⟨j,hj,rfl⟩:=List.mem_map.1 hy
   exact (hf j (List.mem_range.1 hj)).1
end
section
variable {H:Type} {enc:TypeId×Value→H} {w:World} {base:Nat} {spare:Nat→Bool} {held:Bool}
theorem cells_byte:Tryz.prog.cellsOf 5=1:=by kernel_rfl
theorem open_byte_cell {n:Nat} {cs:List Value} {x:DataW H×List MemPlace} (h:DataW.trod enc Tryz.prog w base spare held n 5 cs=some x):∃ y,(Kd.int .u8).K w y cs∧(0≤y∧y≤255):=by
 obtain ⟨k,rfl,_,hw⟩:=DataW.trod_int Tryz.underlying5 h
 refine ⟨k,rfl,?_⟩
 have e0:IntKind.u8.min=0:=by decide
 have e1:IntKind.u8.max=255:=by decide
 simp [Lit.wf,e0,e1] at hw
 omega
theorem arg_bytes {a:Option Addr} {len cap:Nat} {d:DataW H} {p:List MemPlace} (h:DataW.Trod enc Tryz.prog w base spare held 24 (.slice a len cap) d p) :
  ∃ l,len=l.length∧l.length≤cap∧Kd.C (Kd.int .u8) w a l.length l∧∀ y∈l,(fun y:Int=>0≤y∧y≤255) y:=by
 obtain ⟨fuel,hf⟩:=h
 obtain ⟨A,len',cap',l,e,rfl,hlc,hr,hg⟩:=open_list (Kd.int .u8) (fun y:Int=>0≤y∧y≤255) Tryz.underlying24 cells_byte (fun n cs x h=>open_byte_cell h) hf
 simp [Value.cells] at e
 obtain ⟨rfl,rfl,rfl⟩:=e
 exact ⟨l,rfl,hlc,hr,hg⟩
end
end Go.Proofs.YthcpbojmalgdbaaGreatDoor.Q
