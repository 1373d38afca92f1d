/- Closed facts on this seat's program, one by one; no conditions. -/
import Derived.Test.YtadkmhlohgeihaaDoorRows
import Derived.JoinedOf
import Derived.KernelRfl
namespace Go.Proofs.YtadkmhlohgeihaaDoor
set_option maxRecDepth 100000
def ioCodes : List Nat := [104, 97, 114, 110, 101, 115, 115, 32, 53, 100, 48, 98, 100, 56, 52, 51, 57, 50, 48, 53, 99, 49, 97, 50, 54, 55, 52, 52, 97, 55, 102, 57, 56, 101, 100, 49, 48, 53, 54, 98] ++ [98, 54, 56, 49, 54, 99, 101, 52, 99, 56, 48, 55, 97, 55, 48, 98, 100, 102, 52, 52, 49, 57, 99, 102, 97, 98, 101, 49, 99, 101, 101, 48, 32, 99, 117, 116, 32, 97, 116, 32] ++ [108, 111, 111, 112, 46, 101, 120, 97, 109, 112, 108, 101, 47, 103, 48, 49, 51, 53, 50, 47, 108, 97, 119, 115, 46, 70, 110, 69, 120, 97, 99, 116, 80, 97, 114, 115, 101, 80, 108, 97] ++ [110, 107, 115, 32, 108, 111, 111, 112, 46, 101, 120, 97, 109, 112, 108, 101, 47, 103, 48, 49, 51, 53, 50, 47, 108, 97, 119, 115, 46, 70, 110, 69, 120, 97, 99, 116, 80, 97, 114, 115] ++ [101, 73, 115, 108, 101, 115]
theorem io : Tryd.prog.initOrder = String.ofList (ioCodes.map Char.ofNat) := by kernel_rfl
theorem ioL : Tryd.prog.initOrder.toList = ioCodes.map Char.ofNat := by rw [io, String.toList_ofList]
def codesOf (s : List Nat) : List Char := s.map Char.ofNat
noncomputable def ioW : List (List Char) := behindMainWord (wordsSigns (ioCodes.map Char.ofNat))
theorem ioW_head : ioW.head? = some (codesOf [99, 117, 116]) := by kernel_rfl
theorem cutL : "cut".toList = codesOf [99, 117, 116] := by kernel_rfl
theorem ioW_eq : ioW = "cut".toList :: ioW.tail := by
  have h := ioW_head
  cases hW : ioW with
  | nil => rw [hW] at h; cases h
  | cons a l => rw [hW] at h; simp at h; rw [h, cutL]; rfl
theorem ioHl : (stripLifts liftWords ioW).1 = [] := by kernel_rfl
theorem ioHl2 : (stripLifts liftWords ioW).2.head? = some (codesOf [99, 117, 116]) := by kernel_rfl
theorem ioLl : Tryd.prog.laysLater = false := by kernel_rfl
theorem ioBr : Tryd.prog.bearsReflect = false := by kernel_rfl
theorem ioDf : Tryd.prog.doorFits [] = true := by kernel_rfl
theorem ioHW : behindMainWord (wordsSigns Tryd.prog.initOrder.toList) = ioW := by rw [ioL]; rfl
theorem ioHs : (stripLifts liftWords ioW).2.head? = some "cut".toList := by rw [ioHl2, cutL]
section general
theorem gc_ne : ("cut".toList == "gc".toList) = false := by kernel_rfl
theorem spec_ne : ("cut".toList == "spec".toList) = false := by kernel_rfl
theorem car_ne' : (some "cut".toList == some "carried".toList) = false := by kernel_rfl
variable {P : Program} {V : List (List Char)} (hV : behindMainWord (wordsSigns P.initOrder.toList) = V) (hd : V = "cut".toList :: V.tail) (hl : (stripLifts liftWords V).1 = []) (hs : (stripLifts liftWords V).2.head? = some "cut".toList)
include hV hl in
theorem lifts_of : P.headLifts = [] := by
  unfold Program.headLifts
  rw [hV]
  simp [hl]
include hV hd hl hs in
theorem may_of (ll : P.laysLater = false) (br : P.bearsReflect = false) (df : P.doorFits [] = true) : P.mayEnter = true := by
  unfold Program.mayEnter
  rw [hV, hd]
  dsimp only
  rw [← hd, hs, hl, ll, br, df]
  simp
include hV hd hl in
theorem fin_of : P.liftsFinal = false := by
  unfold Program.liftsFinal
  rw [hV, lifts_of hV hl, hd]
  dsimp only [List.head?_cons]
  rw [car_ne']
  rfl
include hV hd in
theorem mk_of : P.make = some .cut := by
  unfold Program.make
  rw [hV, hd]
  dsimp only
  rw [gc_ne, spec_ne]
  simp
end general
theorem mayT : Tryd.prog.mayEnter = true := may_of ioHW ioW_eq ioHl ioHs ioLl ioBr ioDf
theorem finT : Tryd.prog.liftsFinal = false := fin_of ioHW ioW_eq ioHl
theorem mkT : Tryd.prog.make = some .cut := mk_of ioHW ioW_eq
theorem joined_of {P : Program} {f : FuncId} {fn : Func} {s : ChangeSpec} {c : OpenClaim} (k0 : (c.wf (OpenSpec.ofChange s)) = true) (k1 : (laidOutB P) = true) (k2 : (mapsRowed P) = true) (k3 : (fn.params.all (P.readableRec ·)) = true) (k4 : (namedTie P c.named s.vars) = true) (k5 : ((c.stops == [])) = true) (k6 : ((P.stops == [])) = true) (k7 : ((c.knobs == [])) = true) (k8 : ((P.stopKnobs == [])) = true) (k9 : ((c.inPlace == P.inPlace f)) = true) (k10 : ((c.unfollowed == P.unfollowed f)) = true) (k11 : ((c.recurses == P.recurses f)) = true) (k12 : ((c.named == P.varsNamed f)) = true) (k13 : ((c.maps == (fn.params.toList ++ s.plain.varTypes P).any (P.mapsRec ·))) = true) (k14 : ((c.ifaces == (fn.params.toList ++ s.plain.varTypes P).any (P.ifacesRec ·))) = true) (k15 : ((c.mapsOut == P.mapsAmong fn.resultTypes.toList)) = true) (k16 : ((c.loops == (fn.params.toList ++ s.plain.varTypes P).any (P.loopsFrom ·))) = true) (k17 : ((c.wideKeys == (fn.params.toList ++ s.plain.varTypes P ++ fn.resultTypes.toList).any (P.wideKeysFrom ·))) = true) (k18 : (s.vars.all (P.varReadable ·)) = true) (k19 : (fn.resultTypes.all (fun t => P.readableRec t && decide (t < P.types.size))) = true) (k20 : ((c.ifacesOut == fn.resultTypes.toList.any (P.ifacesRec ·))) = true) (k21 : ((c.loopsOut == fn.resultTypes.toList.any (P.loopsFrom ·))) = true) (k22 : ((c.plainKeys == P.plainKeys)) = true) (k23 : (c.shortTexts.isNone) = true) (k24 : (P.stopsHeard) = true) (k25 : P.mayEnter = true) (k26 : P.liftsFinal = c.lifted) (k27 : P.make = some c.make) (k28 : c.kinds = []) (kd : c.domain.isEmpty = true) (k29 : ((c.pinned == c.pinnedBy)) = true) (k30 : ((c.veiled == (fn.params.toList ++ s.plain.varTypes P ++ fn.resultTypes.toList).any (P.veiledRec ·))) = true) (k31 : (c.veiledFits P fn.params.toList (fn.params.toList ++ s.plain.varTypes P ++ fn.resultTypes.toList)) = true) : joinedFacts P f fn s c = true := by
  unfold joinedFacts
  rw [k0, k1, k2, k3, k4, k5, k6, k7, k8, k9, k10, k11, k12, k13, k14, k15, k16, k17, k18, k19, k20, k21, k22, k23, k24, k25, k26, k27, k29, k30, k31, k28, if_pos kd]
  simp
theorem ownT : ownKnob Tryd.prog.godebug = none := by kernel_rfl
theorem laidOutT : laidOutB Tryd.prog = true := by kernel_rfl
theorem mapsRowedT : mapsRowed Tryd.prog = true := by kernel_rfl
theorem stopsT : (Tryd.prog.stops == []) = true := by kernel_rfl
theorem stopKnobsT : (Tryd.prog.stopKnobs == []) = true := by kernel_rfl
theorem stopsHeardT : Tryd.prog.stopsHeard = true := by kernel_rfl
end Go.Proofs.YtadkmhlohgeihaaDoor
