/- Lemmas on which TopAlone and TopCrash stands: the texts Alone4 TopGuestLaw TabLaid. No conditions. -/
import Derived.Test.YtbpblokfiajpjabGreatDoorPkede0bd9cb6
import Derived.Test.YtbpblokfiajpjabGreatDoorRows
import Derived.LaidMore
import Derived.Lay
set_option linter.all false
set_option maxRecDepth 1000000
set_option maxHeartbeats 32000000
namespace Go.Proofs.YtbpblokfiajpjabGreatDoor
open Go.RowKit Go.SL Go.Crc
theorem LB {Y : YA} {m : le} {b : Nat} {l : List Int} (hy : Y.y = b) (h5 : m.list.length <= 5) (hl : m.list = l) (R : List SL.HP) (w : World) (H : own w (yL Y m R)) :
  Calls Tryz.prog 51 #[.pointer (some ⟨b,0,none⟩)] w fun e w'=>∃v,e = .returned v /\ Ext w w' /\ own w' (yL Y m (row 3 1 v l.length (lq l)::R)):=by
 subst hy
 subst hl
 exact FL Y m h5 R w H
theorem J5 {Y : YA} {m : le} {b : Nat} {v : Value} (hy : Y.y = b) (hm : ∀j,m.job = some j -> j.Ok) (hv : Ey m = v) (R : List SL.HP) (w : World) (H : own w (yL Y m R)) :
  Calls Tryz.prog 47 #[.pointer (some ⟨b,0,none⟩)] w fun e w'=>e = .returned v /\ Ext w w' /\ own w' (yL Y m R):=by
 subst hy
 subst hv
 exact IZ Y m hm R w H
theorem DE {Y : YA} {m : le} {b : Nat} {c : Int} {N : Nat} (hy : Y.y = b) (hm : YOk N m) (hN : N < 900000) (hc : clus m.F m.dk.root = c) (R : List SL.HP) (w : World) (H : own w (yL Y m R)) :
  Calls Tryz.prog 43 #[.pointer (some ⟨b,0,none⟩)] w fun e w'=>e = .returned (.int .i64 (4 * c)) /\ Ext w w' /\ own w' (yL Y m R):=by
 subst hy
 subst hc
 rw [Int.mul_comm]
 exact G4 N Y m hm hN R w H
theorem Fz {Y : YA} {m : le} {b : Nat} {c : Int} {s : ByteArray} {N : Nat} (hy : Y.y = b) (hm : YOk N m) (hN : N < 900000) (h0 : 0 <= c) (h1 : c <= 100000) (hg : getM m.F m.list 0 (4 * c) = (s,0)) (R : List SL.HP) (w : World) (H : own w (yL Y m R)) :
  Calls Tryz.prog 42 #[.pointer (some ⟨b,0,none⟩),.int .i64 0,.int .i64 (4 * c)] w fun e w'=>e = .returned (.tuple #[.string s,.nilIface]) /\ Ext w w' /\ own w' (yL Y m R):=by
 subst hy
 have h:=T1 N Y m hm hN 0 (4 * c) (by unfold yb; omega) (by unfold yb; omega) R w H
 rw [hg,lS] at h
 exact h
theorem UB {Y : YA} {m : le} {b : Nat} {N : Nat} (hy : Y.y = b) (hg : ly N m) (hN : N < 900000) (hl : YLen m) (hs : SA m) (R : List SL.HP) (w : World) (H : own w (yL Y m R)) :
  Calls Tryz.prog 54 #[.pointer (some ⟨b,0,none⟩)] w fun e w'=>∃Yx : YA,e = .returned (.tuple #[.pointer (some ⟨Yx.y,0,none⟩),.bool true]) /\ Ext w w' /\ own w' (yL Yx (yj (oA m) m.top).2 (yL Y m R)):=by
 subst hy
 exact UV N Y m hg hN hl hs R w H
theorem CF {Y Y' : YA} {m m' : le} {R : List SL.HP} {w : World} (H : own w (yL Y m (yL Y' m' R))) : own w (yL Y' m' (yL Y m R)):=by
 have h:=lu (shL Y.bs Y.A m.F++yT Y m) (shL Y'.bs Y'.A m'.F++yT Y' m') (R:=R) (by simpa only [zp] using H)
 simpa only [zp] using h
theorem Lh {Y Y' : YA} {m m' : le} {P : SL.HP} {V R : List SL.HP} {w : World} (H : own w (yL Y m (P::yL Y' m' (V++R)))) : own w (yL Y' m' R):=by
 have h1 : own w (yL Y' m' (V++R)):=Aq (shL Y.bs Y.A m.F++(yT Y m++[P])) (by simpa only [zp,List.cons_append,List.nil_append] using H)
 have h2:=Do (shL Y'.bs Y'.A m'.F++yT Y' m') V (E:=R) (by simpa only [zp] using h1)
 simpa only [zp] using h2
theorem JK {Y Y' : YA} {m m' : le} {P : SL.HP} {R : List SL.HP} {w : World} {v : Value} {l : List Int} (hi : ∀w' L,own w' (L++yL Y' m' R) -> lW w' v l) (H : own w (yL Y m (P::yL Y' m' R))) : lW w v l:=
 hi w (shL Y.bs Y.A m.F++(yT Y m++[P])) (by simpa only [zp,List.cons_append,List.nil_append] using H)
theorem KS {w : World} {Y : YA} {m : le} {L A B : List SL.HP} {v : Value} {l : List Int} (h : own w (L++yL Y m (A++(row 3 1 v l.length (lq l)::B)))) : lW w v l:=by
 refine oz (L.length + (15 + A.length)) h ?_
 rw [List.getElem?_append_right (by omega),show L.length + (15 + A.length) - L.length = 6 + (9 + A.length) by omega]
 show ((shL Y.bs Y.A m.F++(yT Y m++(A++(row 3 1 v l.length (lq l)::B)))))[6 + (9 + A.length)]? = _
 rw [List.getElem?_append_right (by show 6 <= _; omega),show 6 + (9 + A.length) - (shL Y.bs Y.A m.F).length = 9 + A.length from Nat.add_sub_cancel_left ..,List.getElem?_append_right (by show 9 <= _; omega),show 9 + A.length - (yT Y m).length = A.length from Nat.add_sub_cancel_left ..,List.getElem?_append_right (Nat.le_refl _),Nat.sub_self]
 rfl
end Go.Proofs.YtbpblokfiajpjabGreatDoor
namespace Go.Proofs.YtbpblokfiajpjabGreatDoor
open Go.RowKit Go.SL Go.Crc
attribute [local go_sem ↓] Go.wp_at_zero Go.wp_at_succ
theorem Wx {Y : YA} {m : le} {L R : List SL.HP} {w : World} (H : own w (yL Y m (L++R))) : own w R:=Aq (shL Y.bs Y.A m.F++(yT Y m++L)) (by simpa only [zp] using H)
theorem Wz {Y : YA} {m : le} {L R : List SL.HP} {w : World} (H : own w (yL Y m (L++R))) : own w (L++yL Y m R):=by
 have h:=lu (shL Y.bs Y.A m.F++yT Y m) L (R:=R) (by simpa only [zp,List.cons_append,List.nil_append] using H)
 simpa only [zp,List.cons_append,List.nil_append] using h
end Go.Proofs.YtbpblokfiajpjabGreatDoor
namespace Go.Proofs.YtbpblokfiajpjabGreatDoor
open Go.ChangeShapes Go.WideShapes Go.ChangeAt Go.RowKit
theorem Wb : Rows.laid_math_bits_deBruijn64tab (H:=Unit) = .agg (Lib.deBruijn64tab.map fun (n : Nat)=>.lit (.int .u8 (n : Int))):=by kernel_rfl
theorem Nl {W : World} (h : laidMetH Tryz.prog [("math/bits.deBruijn64tab", Rows.laid_math_bits_deBruijn64tab)] W) : A0 W := by
 intro r hr
 rw [MakeChecks.laidMetH_plain _ _ _ (by kernel_rfl)] at h
 obtain ⟨ps,⟨g,t,cs,fuel,p,q,hg,ht,hv,hd,_,_⟩,_,_⟩:=h
 obtain rfl := Option.some.inj ((show Tryz.prog.globalNamed "math/bits.deBruijn64tab" = some 0 by kernel_rfl).symm.trans hg)
 obtain rfl:=Option.some.inj ((show (Tryz.prog.globals[0]?).map (·.type) = some 291 by kernel_rfl).symm.trans ht)
 obtain ⟨xs,m,_,ex,_,hl,hel⟩:=DataW.trod_array Tryz.underlying291 hd
 have c5 : Tryz.prog.cellsOf 5 = 1:=by kernel_rfl
 have hE:=hel r hr
 rw [c5,Nat.mul_one,List.getElem?_eq_getElem (by omega)] at hE
 obtain ⟨z,e1,e2,_⟩:=DataW.trod_int Tryz.underlying5 hE
 have hlen : Lib.deBruijn64tab.length = 64:=by decide
 rw [Wb] at ex
 have e3 : (xs.map (·.1)) = Lib.deBruijn64tab.map fun (n : Nat)=>.lit (.int .u8 (n : Int)):=(DataW.agg.inj (Prod.mk.inj ex).1).symm
 have e4 : (xs.map (·.1))[r]? = (Lib.deBruijn64tab.map fun (n : Nat)=>(DataW.lit (.int .u8 (n : Int)) : DataW Unit))[r]?:=by rw [e3]
 rw [List.getElem?_map,List.getElem?_map,List.getElem?_eq_getElem (by omega : r < xs.length),List.getElem?_eq_getElem (by omega : r < Lib.deBruijn64tab.length),e2] at e4
 have hz : z = ((Lib.deBruijn64tab.getD r 0 : Nat) : Int):=by
  simp only [Option.map_some,Option.some.injEq,DataW.lit.injEq,Lit.int.injEq,true_and] at e4
  rw [e4,List.getD,List.getElem?_eq_getElem (by omega : r < Lib.deBruijn64tab.length)]; rfl
 rw [World.var?_cell hg hv r,<- hz]
 have : cs.toList[r]? = some (.int .u8 z):=by
  have h0 : ((cs.toList.drop r).take 1)[0]? = some (.int .u8 z):=by rw [e1]; rfl
  simpa using h0
 simpa using this
end Go.Proofs.YtbpblokfiajpjabGreatDoor
