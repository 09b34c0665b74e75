/- The data of layer 3, and how they are read. -/
import Derived.Test.YtpoaccdbakbjhaaGreatXG17
import Derived.Test.YtpoaccdbakbjhaaGreatXG16
import Derived.JoinedOf
import Derived.SevenTiedAt
import Derived.Test.YtpoaccdbakbjhaaGreatRows
set_option linter.unusedVariables false
set_option linter.unusedSimpArgs false
namespace Go.Abs
abbrev vi (n:Int):PV:=.int .i64 n
def eInt (n:Int):List PV:=[vi n]
def eSpan (s:Span):List PV:=[vi s.low,vi s.high]
def eS (s:Span):PV:=.agg (eSpan s)
def eSpans (l:List Span):PV:=.sl (l.map eSpan)
def eInts (l:List Int):PV:=.sl (l.map eInt)
def eAcid (a:Acid):List PV:=[vi a.strength.low,vi a.strength.high,vi a.fall.low,vi a.fall.high]
def eStrip (s:Strip):List PV:=[vi s.hour,vi s.seen,vi s.off]
def eBatch (b:Batch):List PV:=[vi b.rough,vi b.goal,vi b.thick,vi b.least,vi b.polish,vi b.eat]
def eDrumC (d:Drum):List PV:=[.sl (d.acids.map eAcid),vi d.known,vi d.hours,eInts d.adds,.sl (d.strips.map eStrip),.sl (d.batches.map eBatch)]
def eDrum (d:Drum):PV:=.agg (eDrumC d)
def eTruth (acid:Int) (t:List Int):PV:=.agg [vi acid,eInts t]
def eFilled (d:Drum) (p:Acid × Nat):List PV:=eDrumC d ++ [vi p.2,eSpans (strongL d p.1)]
def eFilledL (d:Drum) (l:List (Acid × Nat)):PV:=.sl (l.map (eFilled d))
def eState (s:State):List PV:=[vi s.rough,vi s.thick]
def eBounds (b:Bounds):List PV:=[vi b.rough.low,vi b.rough.high,vi b.thick.low,vi b.thick.high]
def eRow (l:List Int):List PV:=[eInts l]
def eRows (l:List (List Int)):PV:=.sl (l.map eRow)
end Go.Abs
namespace Go.Abs
structure Gauge where
 row:Int
 col:Int
 seen:Int
 off:Int
 deriving DecidableEq
structure Crack where
 row:Int
 col:Int
 down:Bool
 deriving DecidableEq
structure Place where
 row:Int
 col:Int
 deriving DecidableEq
structure SMap where
 cells:List (List Int)
 taper:Int
 hidden:Int
 gauges:List Gauge
 cracks:List Crack
 probed:List Place
 deriving DecidableEq
structure Tube where
 width:Int
 need:Int
 worth:Int
 deriving DecidableEq
structure Work where
 map:SMap
 tubes:List Tube
 kerf:Int
 deriving DecidableEq
structure Blank where
 row:Int
 col:Int
 tube:Int
 deriving DecidableEq
def colsN (m:SMap):Nat:=(m.cells.headD []).length
def atG {α:Type} (l:List (List α)) (r c:Int):Option α:=if r < 0 \/ c < 0 then none else (l[r.toNat]?).bind (·[c.toNat]?)
def cellI (m:SMap) (r c:Int):Int:=(atG m.cells r c).getD 1
def thereB (m:SMap) (r c:Int):Bool:=inB r 0 (m.cells.length - 1) && inB c 0 (colsN m - 1)
def rowB (m:SMap) (l:List Int):Bool:=decide (l.length = colsN m) && l.all fun c=>inB c 1 3
def gaugeB (m:SMap) (g:Gauge):Bool:=!decide (cellI m g.row g.col = 1) && inB g.seen 0 60 && inB g.off 0 9
def beyondR (k:Crack):Int:=if k.down then k.row + 1 else k.row
def beyondC (k:Crack):Int:=if k.down then k.col else k.col + 1
def crackB (m:SMap) (k:Crack):Bool:=thereB m k.row k.col && thereB m (beyondR k) (beyondC k)
def probedB (m:SMap) (p:Place):Bool:=decide (cellI m p.row p.col = 2)
def mheadB (m:SMap):Bool:=inB m.cells.length 1 6 && inB (colsN m) 1 8 && inB m.taper 0 9 && inB m.hidden 0 3 && decide (m.gauges.length <= 8) && decide (m.cracks.length <= 8) && decide (m.probed.length <= 12)
def mapB (m:SMap):Bool:=mheadB m && m.cells.all (rowB m) && m.gauges.all (gaugeB m) && m.cracks.all (crackB m) && m.probed.all (probedB m)
def tubeB (t:Tube):Bool:=inB t.width 1 3 && inB t.need 1 60 && inB t.worth 1 100
def workB (w:Work):Bool:=w.tubes.all tubeB && mapB w.map && inB w.tubes.length 1 4 && inB w.kerf 0 5
structure MapS (m:SMap):Prop where
 r:m.cells.length <= 6
 c:∀ l ∈ m.cells,l.length <= 8
 g:m.gauges.length <= 8
 k:m.cracks.length <= 8
 p:m.probed.length <= 12
structure MapP (m:SMap):Prop where
 r1:1 <= m.cells.length
 r6:m.cells.length <= 6
 c1:1 <= colsN m
 c8:colsN m <= 8
 t0:0 <= m.taper
 t9:m.taper <= 9
 h0:0 <= m.hidden
 h3:m.hidden <= 3
 g8:m.gauges.length <= 8
 k8:m.cracks.length <= 8
 p12:m.probed.length <= 12
 row:∀ l ∈ m.cells,l.length = colsN m
 cell:∀ l ∈ m.cells,∀ c ∈ l,1 <= c /\ c <= 3
 gg:∀ g ∈ m.gauges,gaugeB m g = true
 kk:∀ k ∈ m.cracks,crackB m k = true
 pp:∀ p ∈ m.probed,probedB m p = true
structure TubeP (t:Tube):Prop where
 w1:1 <= t.width
 w3:t.width <= 3
 n1:1 <= t.need
 n60:t.need <= 60
 o1:1 <= t.worth
 o100:t.worth <= 100
structure WorkP (w:Work):Prop where
 map:MapP w.map
 t1:1 <= w.tubes.length
 t4:w.tubes.length <= 4
 tt:∀ t ∈ w.tubes,TubeP t
 k0:0 <= w.kerf
 k5:w.kerf <= 5
theorem mapP_of {m:SMap} (h:mapB m = true):MapP m:= by
 simp only [mapB,mheadB,inB,Bool.and_eq_true,decide_eq_true_eq,List.all_eq_true,rowB] at h
 obtain ⟨⟨⟨⟨⟨⟨⟨⟨⟨⟨⟨h1,h1'⟩,h2,h2'⟩,h3,h3'⟩,h4,h4'⟩,h5⟩,h6⟩,h7⟩,hr⟩,hg⟩,hk⟩,hp⟩:=h
 exact ⟨by omega,by omega,by omega,by omega,h3,h3',h4,h4',h5,h6,h7,fun l hl=>(hr l hl).1,fun l hl c hc=>(hr l hl).2 c hc,hg,hk,hp⟩
theorem tubeP_of {t:Tube} (h:tubeB t = true):TubeP t:= by
 simp only [tubeB,inB,Bool.and_eq_true,decide_eq_true_eq] at h
 exact ⟨h.1.1.1,h.1.1.2,h.1.2.1,h.1.2.2,h.2.1,h.2.2⟩
theorem workP_of {w:Work} (h:workB w = true):WorkP w:= by
 simp only [workB,inB,Bool.and_eq_true,decide_eq_true_eq,List.all_eq_true] at h
 obtain ⟨⟨⟨h1,h2⟩,h3,h3'⟩,h4,h4'⟩:=h
 exact ⟨mapP_of h2,by omega,by omega,fun t ht=>tubeP_of (h1 t ht),h4,h4'⟩
theorem atG_row {α:Type} {l:List (List α)} {r c:Nat} {x:List α} (h:l[r]? = some x):atG l r c = x[c]?:= by
 have:¬ ((r:Int) < 0 \/ (c:Int) < 0):=by omega
 simp only [atG,this,if_false,Int.toNat_natCast,h]; rfl
theorem cols_row {m:SMap} (h:MapP m) {r:Nat} {x:List Int} (hx:m.cells[r]? = some x):x.length = colsN m:=h.row x (List.mem_of_getElem? hx)
theorem MapS.cols {m:SMap} (h:MapS m):colsN m <= 8:= by
 unfold colsN
 cases hc:m.cells with
 | nil=>simp
 | cons x t=>exact h.c x (by rw [hc]; exact .head _)
theorem atG_low {α:Type} {l:List (List α)} {r c:Int} (h:inB r 0 (l.length - 1) = false):atG l r c = none:= by
 unfold atG
 split
 ·rfl
 ·rename_i hn
  have:l[r.toNat]? = none:= by
   rw [List.getElem?_eq_none_iff]
   simp only [inB,Bool.and_eq_false_iff,decide_eq_false_iff_not] at h
   omega
  rw [this]; rfl
theorem atG_out {α:Type} {l:List (List α)} {r c:Int} {x:List α} (hx:l[r.toNat]? = some x) (h:inB c 0 (x.length - 1) = false):atG l r c = none:= by
 unfold atG
 split
 ·rfl
 ·rename_i hn
  rw [hx]
  show x[c.toNat]? = none
  rw [List.getElem?_eq_none_iff]
  simp only [inB,Bool.and_eq_false_iff,decide_eq_false_iff_not] at h
  omega
theorem atG_in {α:Type} {l:List (List α)} {r c:Int} {x:List α} (hr:0 <= r) (hc:0 <= c) (hx:l[r.toNat]? = some x):atG l r c = x[c.toNat]?:= by
 have:¬ (r < 0 \/ c < 0):=by omega
 simp only [atG,this,if_false,hx]; rfl
theorem inB_true {x lo hi:Int} (h:inB x lo hi = true):lo <= x /\ x <= hi:=by simpa [inB] using h
theorem inB_iff {x lo hi:Int}:inB x lo hi = true ↔ lo <= x /\ x <= hi:=by simp [inB]
theorem row_at {α:Type} {l:List (List α)} {r:Int} (h:inB r 0 (l.length - 1) = true):∃ x,l[r.toNat]? = some x:= by
 have:=inB_true h
 exact ⟨l[r.toNat]'(by omega),by simp⟩
end Go.Abs
namespace Go.Abs
def eGauge (g:Gauge):List PV:=[vi g.row,vi g.col,vi g.seen,vi g.off]
def eCrack (k:Crack):List PV:=[vi k.row,vi k.col,.bool k.down]
def ePlace (p:Place):List PV:=[vi p.row,vi p.col]
def eMapC (m:SMap):List PV:=[eRows m.cells,vi m.taper,vi m.hidden,.sl (m.gauges.map eGauge),.sl (m.cracks.map eCrack),.sl (m.probed.map ePlace)]
def eMap (m:SMap):PV:=.agg (eMapC m)
def eTube (t:Tube):List PV:=[vi t.width,vi t.need,vi t.worth]
def eWorkC (w:Work):List PV:=eMapC w.map ++ [.sl (w.tubes.map eTube),vi w.kerf]
def eWork (w:Work):PV:=.agg (eWorkC w)
def eBlank (b:Blank):List PV:=[vi b.row,vi b.col,vi b.tube]
def eB (b:Blank):PV:=.agg (eBlank b)
def eBlanks (l:List Blank):PV:=.sl (l.map eBlank)
abbrev boM (m:SMap):AObj:=.box ((eMapC m).map FV.pv)
abbrev boW (w:Work):AObj:=.box ((eWorkC w).map FV.pv)
end Go.Abs
namespace Go.Abs
open Go.Proofs Go.RowKit
set_option maxRecDepth 100000
section
variable {H:Type} {enc:TypeId × Value -> H} {W:World}
theorem RdC.bool {P:Program} {t:TypeId} (ht:P.underlying t = some .bool):RdC enc P W t (fun b:Bool=>[.bool b]):=fun fuel cs d hd=>by
 obtain ⟨n,rfl,_,_⟩:=DataW.trod_bool ht hd
 exact ⟨n,rfl,fun j v p hv hp=>by
  match j with
  | 0=>simp at hv hp; subst hv; subst hp; exact ⟨rfl,.bool _⟩
  | j + 1=>simp at hv⟩
theorem rd3:RdC enc Tryz.prog W 3 (fun n:Int=>[vi n]):=RdC.int (by kernel_rfl)
theorem rd4:RdC enc Tryz.prog W 4 (fun b:Bool=>[.bool b]):=RdC.bool (by kernel_rfl)
theorem rd68:RdC enc Tryz.prog W 68 (fun n:Int=>[vi n]):=RdC.int (by kernel_rfl)
theorem rd66:RdC enc Tryz.prog W 66 eRow:=RdC.sl (e:=eInt) (by kernel_rfl) (fun x=>by rw [show Tryz.prog.cellsOf 68 = 1 by kernel_rfl]; rfl) rd68
theorem rd22:RdC enc Tryz.prog W 22 (fun l:List (List Int)=>[eRows l]):=RdC.sl (e:=eRow) (by kernel_rfl) (fun x=>by rw [show Tryz.prog.cellsOf 66 = 1 by kernel_rfl]; rfl) rd66
theorem rd33:RdC enc Tryz.prog W 33 eRow:=RdC.sl (e:=eInt) (by kernel_rfl) (fun x=>by rw [show Tryz.prog.cellsOf 3 = 1 by kernel_rfl]; rfl) rd3
theorem rd31:RdC enc Tryz.prog W 31 (fun l:List (List Int)=>[eRows l]):=RdC.sl (e:=eRow) (by kernel_rfl) (fun x=>by rw [show Tryz.prog.cellsOf 33 = 1 by kernel_rfl]; rfl) rd33
theorem rd72:RdC enc Tryz.prog W 72 eGauge :=
 RdC.map (t:=72) (fun x:Int × Int × Int × Int × Unit=>⟨x.1,x.2.1,x.2.2.1,x.2.2.2.1⟩) (fun x=>by rfl) (RdC.strct (fs:=[(3,0),(3,1),(3,2),(3,3)]) (by kernel_rfl) (by kernel_rfl) (RdF.cons 1 rd3 (by kernel_rfl) (by decide +kernel) (RdF.cons 1 rd3 (by kernel_rfl) (by decide +kernel) (RdF.cons 1 rd3 (by kernel_rfl) (by decide +kernel) (RdF.cons 1 rd3 (by kernel_rfl) (by decide +kernel) (RdF.nil (by kernel_rfl)))))))
theorem rd23:RdC enc Tryz.prog W 23 (fun l:List Gauge=>[.sl (l.map eGauge)]):=RdC.sl (by kernel_rfl) (fun x=>by rw [show Tryz.prog.cellsOf 72 = 4 by kernel_rfl]; rfl) rd72
theorem rd184:RdC enc Tryz.prog W 184 eCrack :=
 RdC.map (t:=184) (fun x:Int × Int × Bool × Unit=>⟨x.1,x.2.1,x.2.2.1⟩) (fun x=>by rfl) (RdC.strct (fs:=[(3,0),(3,1),(4,2)]) (by kernel_rfl) (by kernel_rfl) (RdF.cons 1 rd3 (by kernel_rfl) (by decide +kernel) (RdF.cons 1 rd3 (by kernel_rfl) (by decide +kernel) (RdF.cons 1 rd4 (by kernel_rfl) (by decide +kernel) (RdF.nil (by kernel_rfl))))))
theorem rd24:RdC enc Tryz.prog W 24 (fun l:List Crack=>[.sl (l.map eCrack)]):=RdC.sl (by kernel_rfl) (fun x=>by rw [show Tryz.prog.cellsOf 184 = 3 by kernel_rfl]; rfl) rd184
theorem rd187:RdC enc Tryz.prog W 187 ePlace :=
 RdC.map (t:=187) (fun x:Int × Int × Unit=>⟨x.1,x.2.1⟩) (fun x=>by rfl) (RdC.strct (fs:=[(3,0),(3,1)]) (by kernel_rfl) (by kernel_rfl) (RdF.cons 1 rd3 (by kernel_rfl) (by decide +kernel) (RdF.cons 1 rd3 (by kernel_rfl) (by decide +kernel) (RdF.nil (by kernel_rfl)))))
theorem rd25:RdC enc Tryz.prog W 25 (fun l:List Place=>[.sl (l.map ePlace)]):=RdC.sl (by kernel_rfl) (fun x=>by rw [show Tryz.prog.cellsOf 187 = 2 by kernel_rfl]; rfl) rd187
theorem rd27:RdC enc Tryz.prog W 27 eMapC :=
 RdC.map (t:=27) (fun x:List (List Int) × Int × Int × List Gauge × List Crack × List Place × Unit=>⟨x.1,x.2.1,x.2.2.1,x.2.2.2.1,x.2.2.2.2.1,x.2.2.2.2.2.1⟩) (fun x=>by rfl) (RdC.strct (fs:=[(22,0),(3,1),(3,2),(23,3),(24,4),(25,5)]) (by kernel_rfl) (by kernel_rfl)
  (RdF.cons 1 rd22 (by kernel_rfl) (by decide +kernel) (RdF.cons 1 rd3 (by kernel_rfl) (by decide +kernel) (RdF.cons 1 rd3 (by kernel_rfl) (by decide +kernel) (RdF.cons 1 rd23 (by kernel_rfl) (by decide +kernel) (RdF.cons 1 rd24 (by kernel_rfl) (by decide +kernel) (RdF.cons 1 rd25 (by kernel_rfl) (by decide +kernel) (RdF.nil (by kernel_rfl)))))))))
theorem rd52:RdC enc Tryz.prog W 52 eTube :=
 RdC.map (t:=52) (fun x:Int × Int × Int × Unit=>⟨x.1,x.2.1,x.2.2.1⟩) (fun x=>by rfl) (RdC.strct (fs:=[(3,0),(3,1),(3,2)]) (by kernel_rfl) (by kernel_rfl) (RdF.cons 1 rd3 (by kernel_rfl) (by decide +kernel) (RdF.cons 1 rd3 (by kernel_rfl) (by decide +kernel) (RdF.cons 1 rd3 (by kernel_rfl) (by decide +kernel) (RdF.nil (by kernel_rfl))))))
theorem rd28:RdC enc Tryz.prog W 28 (fun l:List Tube=>[.sl (l.map eTube)]):=RdC.sl (by kernel_rfl) (fun x=>by rw [show Tryz.prog.cellsOf 52 = 3 by kernel_rfl]; rfl) rd52
theorem rd30:RdC enc Tryz.prog W 30 eWorkC :=
 RdC.map (t:=30) (fun x:SMap × List Tube × Int × Unit=>⟨x.1,x.2.1,x.2.2.1⟩) (fun x=>by rfl) (RdC.strct (fs:=[(27,0),(28,6),(3,7)]) (by kernel_rfl) (by kernel_rfl) (RdF.cons 6 rd27 (by kernel_rfl) (by decide +kernel) (RdF.cons 1 rd28 (by kernel_rfl) (by decide +kernel) (RdF.cons 1 rd3 (by kernel_rfl) (by decide +kernel) (RdF.nil (by kernel_rfl))))))
theorem rd56:RdC enc Tryz.prog W 56 eSpan :=
 RdC.map (t:=56) (fun x:Int × Int × Unit=>⟨x.1,x.2.1⟩) (fun x=>by rfl) (RdC.strct (fs:=[(3,0),(3,1)]) (by kernel_rfl) (by kernel_rfl) (RdF.cons 1 rd3 (by kernel_rfl) (by decide +kernel) (RdF.cons 1 rd3 (by kernel_rfl) (by decide +kernel) (RdF.nil (by kernel_rfl)))))
theorem rd111:RdC enc Tryz.prog W 111 eAcid :=
 RdC.map (t:=111) (fun x:Span × Span × Unit=>⟨x.1,x.2.1⟩) (fun x=>by rfl) (RdC.strct (fs:=[(56,0),(56,2)]) (by kernel_rfl) (by kernel_rfl) (RdF.cons 2 rd56 (by kernel_rfl) (by decide +kernel) (RdF.cons 2 rd56 (by kernel_rfl) (by decide +kernel) (RdF.nil (by kernel_rfl)))))
theorem rd32:RdC enc Tryz.prog W 32 (fun l:List Acid=>[.sl (l.map eAcid)]):=RdC.sl (by kernel_rfl) (fun x=>by rw [show Tryz.prog.cellsOf 111 = 4 by kernel_rfl]; rfl) rd111
theorem rd113:RdC enc Tryz.prog W 113 eStrip :=
 RdC.map (t:=113) (fun x:Int × Int × Int × Unit=>⟨x.1,x.2.1,x.2.2.1⟩) (fun x=>by rfl) (RdC.strct (fs:=[(3,0),(3,1),(3,2)]) (by kernel_rfl) (by kernel_rfl) (RdF.cons 1 rd3 (by kernel_rfl) (by decide +kernel) (RdF.cons 1 rd3 (by kernel_rfl) (by decide +kernel) (RdF.cons 1 rd3 (by kernel_rfl) (by decide +kernel) (RdF.nil (by kernel_rfl))))))
theorem rd34:RdC enc Tryz.prog W 34 (fun l:List Strip=>[.sl (l.map eStrip)]):=RdC.sl (by kernel_rfl) (fun x=>by rw [show Tryz.prog.cellsOf 113 = 3 by kernel_rfl]; rfl) rd113
theorem rd54:RdC enc Tryz.prog W 54 eBatch :=
 RdC.map (t:=54) (fun x:Int × Int × Int × Int × Int × Int × Unit=>⟨x.1,x.2.1,x.2.2.1,x.2.2.2.1,x.2.2.2.2.1,x.2.2.2.2.2.1⟩) (fun x=>by rfl) (RdC.strct (fs:=[(3,0),(3,1),(3,2),(3,3),(3,4),(3,5)]) (by kernel_rfl) (by kernel_rfl)
  (RdF.cons 1 rd3 (by kernel_rfl) (by decide +kernel) (RdF.cons 1 rd3 (by kernel_rfl) (by decide +kernel) (RdF.cons 1 rd3 (by kernel_rfl) (by decide +kernel) (RdF.cons 1 rd3 (by kernel_rfl) (by decide +kernel) (RdF.cons 1 rd3 (by kernel_rfl) (by decide +kernel) (RdF.cons 1 rd3 (by kernel_rfl) (by decide +kernel) (RdF.nil (by kernel_rfl)))))))))
theorem rd35:RdC enc Tryz.prog W 35 (fun l:List Batch=>[.sl (l.map eBatch)]):=RdC.sl (by kernel_rfl) (fun x=>by rw [show Tryz.prog.cellsOf 54 = 6 by kernel_rfl]; rfl) rd54
theorem rd37:RdC enc Tryz.prog W 37 eDrumC :=
 RdC.map (t:=37) (fun x:List Acid × Int × Int × List Int × List Strip × List Batch × Unit=>⟨x.1,x.2.1,x.2.2.1,x.2.2.2.1,x.2.2.2.2.1,x.2.2.2.2.2.1⟩) (fun x=>by rfl) (RdC.strct (fs:=[(32,0),(3,1),(3,2),(33,3),(34,4),(35,5)]) (by kernel_rfl) (by kernel_rfl)
  (RdF.cons 1 rd32 (by kernel_rfl) (by decide +kernel) (RdF.cons 1 rd3 (by kernel_rfl) (by decide +kernel) (RdF.cons 1 rd3 (by kernel_rfl) (by decide +kernel) (RdF.cons 1 rd33 (by kernel_rfl) (by decide +kernel) (RdF.cons 1 rd34 (by kernel_rfl) (by decide +kernel) (RdF.cons 1 rd35 (by kernel_rfl) (by decide +kernel) (RdF.nil (by kernel_rfl)))))))))
theorem rd39:RdC enc Tryz.prog W 39 (fun t:Int × List Int=>[vi t.1,eInts t.2]) :=
 RdC.map (t:=39) (fun x:Int × List Int × Unit=>(x.1,x.2.1)) (fun x=>by rfl) (RdC.strct (fs:=[(3,0),(33,1)]) (by kernel_rfl) (by kernel_rfl) (RdF.cons 1 rd3 (by kernel_rfl) (by decide +kernel) (RdF.cons 1 rd33 (by kernel_rfl) (by decide +kernel) (RdF.nil (by kernel_rfl)))))
end
end Go.Abs
namespace Go.Abs
theorem joined_abs {P:Program} {f:FuncId} {fn:Func} {s:ChangeSpec} {c:OpenClaim} (g1:laidOutB P = true) (g2:mapsRowed P = true) (g3:P.stopsHeard = true) (g4:P.mayEnter = true) (g5:(c.lifted == P.liftsFinal) = true) (g6:(P.make == some c.make) = true)
  (g7:(c.plainKeys == P.plainKeys) = true) (g8:(P.stops == []) = true) (g9:(P.stopKnobs == []) = true)
  (h1:c.wf (OpenSpec.ofChange s) = true) (h2:(fn.params.all (P.readableRec ·) && namedTie P c.named s.vars) = true) (h2b:((c.stops == []) && (c.knobs == [])) = true)
  (h3:(c.inPlace == P.inPlace f) = true) (h4:(c.unfollowed == P.unfollowed f) = true) (h5:(c.recurses == P.recurses f) = true) (h6:(c.named == P.varsNamed f) = true)
  (h7:((c.maps == (fn.params.toList ++ s.plain.varTypes P).any (P.mapsRec ·)) && (c.ifaces == (fn.params.toList ++ s.plain.varTypes P).any (P.ifacesRec ·)) && (c.mapsOut == P.mapsAmong fn.resultTypes.toList) &&
   (c.loops == (fn.params.toList ++ s.plain.varTypes P).any (P.loopsFrom ·)) && (c.wideKeys == (fn.params.toList ++ s.plain.varTypes P ++ fn.resultTypes.toList).any (P.wideKeysFrom ·))) = true)
  (h8:(s.vars.all (P.varReadable ·) && fn.resultTypes.all (fun t=>P.readableRec t && decide (t < P.types.size)) && (c.ifacesOut == fn.resultTypes.toList.any (P.ifacesRec ·)) && (c.loopsOut == fn.resultTypes.toList.any (P.loopsFrom ·))) = true)
  (h10:c.shortTexts.isNone = true)
  (hdom:c.domain.isEmpty = true) (d1:(c.kinds == []) = true) (d2:(c.pinned == c.pinnedBy) = true)
  (h14:((c.veiled == (fn.params.toList ++ s.plain.varTypes P ++ fn.resultTypes.toList).any (P.veiledRec ·)) && c.veiledFits P fn.params.toList (fn.params.toList ++ s.plain.varTypes P ++ fn.resultTypes.toList)) = true) :
  joinedFacts P f fn s c = true:= by
 simp only [Bool.and_eq_true] at h2 h2b h7 h8 h14
 obtain ⟨a1,a2⟩:=h2
 obtain ⟨a3,a4⟩:=h2b
 obtain ⟨⟨⟨⟨b1,b2⟩,b3⟩,b4⟩,b5⟩:=h7
 obtain ⟨⟨⟨c1,c2⟩,c3⟩,c4⟩:=h8
 obtain ⟨e1,e2⟩:=h14
 unfold joinedFacts
 rw [h1,g1,g2,a1,a2,a3,g8,a4,g9,h3,h4,h5,h6,b1,b2,b3,b4,b5,c1,c2,c3,c4,g7,h10,g3,g4,g5,g6,if_pos hdom,d1,d2,e1,e2]
 rfl
end Go.Abs
namespace Go.Abs
open Go.RowKit
section
variable {H:Type} {enc:TypeId × Value -> H} {P:Program} {w:World} {base:Nat} {spare:Nat -> Bool} {held:Bool}
theorem trodAll_cons {t:TypeId} {ts:List TypeId} {vs:List Value} {ds:List (DataW H)} {ps:List MemPlace} (h:DataW.TrodAll enc P w base spare held (t :: ts) vs ds ps) :
  ∃ v r d e p q,vs = v :: r /\ ds = d :: e /\ ps = p ++ q /\ DataW.Trod enc P w base spare held t v d p /\ DataW.TrodAll enc P w base spare held ts r e q:= by
 cases vs with
 | nil=>exact h.elim
 | cons v r=>cases ds with
  | nil=>exact h.elim
  | cons d e =>
   obtain ⟨p,q,h1,h2,rfl⟩:=h
   exact ⟨v,r,d,e,p,q,rfl,rfl,rfl,h1,h2⟩
theorem trodAll_nil {vs:List Value} {ds:List (DataW H)} {ps:List MemPlace} (h:DataW.TrodAll enc P w base spare held [] vs ds ps):vs = [] /\ ds = [] /\ ps = []:= by
 cases vs with
 | cons v r=>exact h.elim
 | nil=>cases ds with
  | cons d e=>exact h.elim
  | nil=>exact ⟨rfl,rfl,h⟩
def RepLL (w:World) (D:Nat -> Prop):List Value -> List PV -> Prop
 | [],[]=>True
 | v :: vs,p :: ps=>Rep w D v p /\ RepLL w D vs ps
 | _,_=>False
theorem repL_nil {D:Nat -> Prop}:RepLL w D [] []:=trivial
theorem repL_cons {D:Nat -> Prop} {v:Value} {p:PV} {vs:List Value} {ps:List PV} (h:Rep w D v p) (hs:RepLL w D vs ps):RepLL w D (v :: vs) (p :: ps):=⟨h,hs⟩
theorem repLL_spec {D:Nat -> Prop}:∀ {vs:List Value} {ps:List PV},RepLL w D vs ps -> vs.length = ps.length /\ ∀ (j:Nat) (u:Value) (p:PV),vs[j]? = some u -> ps[j]? = some p -> Rep w D u p
 | [],[],_=>⟨rfl,fun j u p h=>by simp at h⟩
 | [],_ :: _,h=>h.elim
 | _ :: _,[],h=>h.elim
 | v :: vs,p :: ps,h=>by
  obtain ⟨h1,h2⟩:=repLL_spec h.2
  refine ⟨by simp [h1],fun j u q hu hq=>?_⟩
  match j with
  | 0=>simp at hu hq; subst hu; subst hq; exact h.1
  | j + 1=>exact h2 j u q (by simpa using hu) (by simpa using hq)
theorem repL_arr {D:Nat -> Prop} {vs:List Value} {ps:List PV} (h:RepLL w D vs ps):RepL w D vs.toArray ps:= by
 obtain ⟨h1,h2⟩:=repLL_spec h
 exact ⟨by simpa using h1,fun j u p hu hp=>h2 j u p (by simpa using hu) hp⟩
end
end Go.Abs
namespace Go.Abs
open Go.Proofs Go.RowKit Go.ChangeShapes Go.Proofs.YtpoaccdbakbjhaaGreat
set_option maxRecDepth 100000
theorem ownT:ownKnob Tryz.prog.godebug = none:=by kernel_rfl
theorem laidOutT:laidOutB Tryz.prog = true:=by kernel_rfl
theorem bool4:Tryz.prog.underlying 4 = some .bool:=by kernel_rfl
theorem law_lifted {f:FuncId} {fn:Func} {s:ChangeSpec} (os:Os) (started:os.Started) {H:Type} (enc:TypeId × Value -> H) (hno:Tryz.prog.inits.idxOf? f = none) (hfn:Tryz.prog.funcs[f]? = some fn) (hs:s.vars = [])
  (hres:fn.resultTypes = #[4]) (hts:∀ t ∈ fn.params.toList,Tryz.prog.readableRec t = true /\ t < Tryz.prog.types.size)
  (args:Array Value) (hv:(World.plainHolding Tryz.prog os ⟨#[],args,[]⟩).variablesB Tryz.prog = true)
  (hr:((World.plainHolding Tryz.prog os ⟨#[],args,[]⟩).heap.toList.drop Tryz.prog.globals.size).take ((begin Tryz.prog (fun _ _=>0) default).world.heap.size - Tryz.prog.globals.size) = (begin Tryz.prog (fun _ _=>0) default).world.heap.toList.drop Tryz.prog.globals.size)
  (hok:Input.okWideB Tryz.prog (World.plainHolding Tryz.prog os ⟨#[],args,[]⟩) f ⟨#[],args,[]⟩ = true)
  (hpre:s.preB enc Tryz.prog fn [] false (World.plainHolding Tryz.prog os ⟨#[],args,[]⟩).memory args 8 = true)
  (hsz:s.sizedB enc Tryz.prog fn false (World.plainHolding Tryz.prog os ⟨#[],args,[]⟩).memory args 8 = true)
  (contract:∀ (W:World) (base:Nat) (args:Array Value) (ds:List (DataW H)) (p:List MemPlace),(∀ (j:Nat) t v,fn.params[j]? = some t -> args[j]? = some v -> Value.okWide Tryz.prog W .any base t v) →
   DataW.TrodAll enc Tryz.prog W 0 (fun _=>true) true fn.params.toList args.toList ds p →
   s.fn H ds = { results:=[.lit (.bool true)],args:=ds } /\ ∃ ps,RepL W (fun b=>b < W.heap.size) args ps /\ ACalls Tryz.prog f ps (fun r=>r = .pv (.bool true))) :
  ReturnsInHanded {} Tryz.checked os f .any (s.pre6 enc Tryz.prog fn [] false) (s.post enc Tryz.prog fn false true false false):= by
 refine returnsInHanded_of_change (C:=Tryz.checked) ownT started hno hfn
  (ChangeSpec.witness6 (enc:=enc) (C:=Tryz.checked) false ⟨#[],args,[]⟩ 8 hv hr hok hpre hsz) ?_
 intro W base args ds gs before hval hW _ _
 obtain ⟨p,q,hA,hV,_⟩:=id hW
 obtain ⟨hfn',ps,hR,hC⟩:=contract W base args ds p hval hA
 refine (hC.2 W (fun b=>b < W.heap.size) args (fun _ h=>h) hR).mono ?_
 rintro e w' ⟨v,r,D',rfl,hb,_,_,_,hr,rfl⟩
 have hv:v = .bool true:=Rep.inv_bool hr
 subst hv
 exact ⟨_,rfl,law_post hs hfn' hres bool4 laidOutT hts hW hb⟩
theorem pf_mapsRowed:mapsRowed Tryz.prog = true:=by kernel_rfl
theorem pf_stopsHeard:Tryz.prog.stopsHeard = true:=by kernel_rfl
theorem pf_mayEnter:Tryz.prog.mayEnter = true:=by kernel_rfl
theorem pf_lifted:(Rows.topSmoothRow.lifted == Tryz.prog.liftsFinal) = true:=by kernel_rfl
theorem pf_make:(Tryz.prog.make == some Rows.topSmoothRow.make) = true:=by kernel_rfl
theorem pf_plainKeys:(Rows.topSmoothRow.plainKeys == Tryz.prog.plainKeys) = true:=by kernel_rfl
theorem pf_stops:(Tryz.prog.stops == []) = true:=by kernel_rfl
theorem pf_knobs:(Tryz.prog.stopKnobs == []) = true:=by kernel_rfl
end Go.Abs
namespace Go.Abs
open Go.Proofs
set_option maxRecDepth 100000
def idxFrom {α:Type} (p:α -> Bool):List α -> Int -> Int
 | [],_=>-1
 | x :: l,i=>if p x then i else idxFrom p l (i + 1)
theorem idxFrom_ge {α:Type} (p:α -> Bool):∀ (l:List α) (i:Int),0 <= i -> (decide (idxFrom p l i >= 0)) = l.any p
 | [],i,_=>by simp [idxFrom]
 | x :: l,i,h=>by
  unfold idxFrom
  cases hp:p x with
  | true=>simp [hp,h]
  | false=>simp [hp,idxFrom_ge p l (i + 1) (by omega)]
theorem idxFrom_drop {α:Type} (p:α -> Bool) {l:List α} {k:Nat} {x:α} (h:l[k]? = some x) (i:Int):idxFrom p (l.drop k) i = if p x then i else idxFrom p (l.drop (k + 1)) (i + 1):= by
 have hk:k < l.length:=(List.getElem?_eq_some_iff.1 h).1
 have hx:l[k] = x:=(List.getElem?_eq_some_iff.1 h).2
 rw [List.drop_eq_getElem_cons hk,hx]; rfl
theorem c143 (L:List Strip) (g:Nat) (caps:List PV) (p:Strip -> Bool) (hL:L.length <= 1000) (hp:∀ x ∈ L,ACalls Tryz.prog g ([.agg (eStrip x)] ++ caps) (fun r=>r = .pv (.bool (p x)))) :
  ACalls Tryz.prog 158 [.sl (L.map eStrip),.fn g caps] (fun r=>r = .pv (vi (idxFrom p L 0))):= by
 refine ACalls.of_body hT Tryz.func158 rfl (by kernel_rfl) rfl ?_
 (repeat (refine stp ?_))
 refine AW_loopC (fun k:Nat=>k <= L.length /\ idxFrom p L 0 = idxFrom p (L.drop k) k) (fun k=>mkSt [(0,.pv (.sl (L.map eStrip))),(1,.pv (.fn g caps)),(7,.pv (vi L.length)),(8,.pv (vi k))] [] 0) (fun k=>L.length - k) 0 ⟨Nat.zero_le _,rfl⟩ ?_ ?_
 ·exact Le.mk ⟨rfl,rfl,rfl,rfl,rfl,rfl,rfl,rfl,trivial⟩ trivial
 ·rintro k ⟨hk,hi⟩
  (repeat (refine stp ?_))
  refine AW_cond rfl (fun hc=>?_) (fun hc=>?_)
  ·have hk':k < L.length:=by simpa using hc
   obtain ⟨x,hx⟩:∃ x,L[k]? = some x:=⟨L[k],by simp [hk']⟩
   have e1:=get_map eStrip hx
   have hxm:=List.mem_of_getElem? hx
   rw [idxFrom_drop p hx] at hi
   (repeat (refine stp ?_))
   refine AL_do rfl (op_call1 rfl rfl rfl rfl (hp x hxm)) ?_
   (repeat (refine stp ?_))
   refine AW_cond rfl (fun hc2=>?_) (fun hc2=>?_)
   ·rw [hc2] at hi
    (repeat (refine stp ?_))
    exact ⟨_,_,rfl,rfl,by rw [hi]; rfl⟩
   ·rw [hc2] at hi
    (repeat (refine stp ?_))
    exact ⟨k + 1,⟨hk',by rw [hi]; simp⟩,by omega,Le.mk ⟨rfl,rfl,rfl,rfl,rfl,rfl,rfl,rfl,trivial⟩ trivial⟩
  ·have hk':k = L.length:=by simp at hc; omega
   subst hk'
   (repeat (refine stp ?_))
   refine ⟨_,_,rfl,rfl,?_⟩
   rw [hi]; simp [idxFrom]
theorem c95 (L:List Strip) (g:Nat) (caps:List PV) (p:Strip -> Bool) (hL:L.length <= 1000) (hp:∀ x ∈ L,ACalls Tryz.prog g ([.agg (eStrip x)] ++ caps) (fun r=>r = .pv (.bool (p x)))) :
  ACalls Tryz.prog 94 [.sl (L.map eStrip),.fn g caps] (fun r=>r = .pv (.bool (L.any p))):= by
 refine ACalls.of_body hT Tryz.func94 rfl (by kernel_rfl) rfl ?_
 (repeat' (first|refine stp ?_|(refine AL_do2 rfl ?_; first|refine ⟨_,op_call1 rfl rfl rfl rfl (c143 L g caps p hL hp),?_⟩)|refine AL_gdec rfl rfl rfl (fun hg=>?_) (fun hg=>?_)|refine AL_gnot rfl rfl rfl (fun hg=>?_) (fun hg=>?_)|refine AL_gcases rfl rfl rfl (fun hg=>?_) (fun hg=>?_)))
 exact ⟨_,_,rfl,rfl,by rw [idxFrom_ge _ _ _ (Int.le_refl _)]⟩
theorem c165 (L:List Int) (g:Nat) (caps:List PV) (p:Int -> Bool) (hL:L.length <= 1000) (hp:∀ x ∈ L,ACalls Tryz.prog g ([vi x] ++ caps) (fun r=>r = .pv (.bool (p x)))) :
  ACalls Tryz.prog 132 [.sl (L.map eInt),.fn g caps] (fun r=>r = .pv (vi (idxFrom p L 0))):= by
 refine ACalls.of_body hT Tryz.func132 rfl (by kernel_rfl) rfl ?_
 (repeat (refine stp ?_))
 refine AW_loopC (fun k:Nat=>k <= L.length /\ idxFrom p L 0 = idxFrom p (L.drop k) k) (fun k=>mkSt [(0,.pv (.sl (L.map eInt))),(1,.pv (.fn g caps)),(7,.pv (vi L.length)),(8,.pv (vi k))] [] 0) (fun k=>L.length - k) 0 ⟨Nat.zero_le _,rfl⟩ ?_ ?_
 ·exact Le.mk ⟨rfl,rfl,rfl,rfl,rfl,rfl,rfl,rfl,trivial⟩ trivial
 ·rintro k ⟨hk,hi⟩
  (repeat (refine stp ?_))
  refine AW_cond rfl (fun hc=>?_) (fun hc=>?_)
  ·have hk':k < L.length:=by simpa using hc
   obtain ⟨x,hx⟩:∃ x,L[k]? = some x:=⟨L[k],by simp [hk']⟩
   have e1:=get_map eInt hx
   have hxm:=List.mem_of_getElem? hx
   rw [idxFrom_drop p hx] at hi
   (repeat (refine stp ?_))
   refine AL_do rfl (op_call1 rfl rfl rfl rfl (hp x hxm)) ?_
   (repeat (refine stp ?_))
   refine AW_cond rfl (fun hc2=>?_) (fun hc2=>?_)
   ·rw [hc2] at hi
    (repeat (refine stp ?_))
    exact ⟨_,_,rfl,rfl,by rw [hi]; rfl⟩
   ·rw [hc2] at hi
    (repeat (refine stp ?_))
    exact ⟨k + 1,⟨hk',by rw [hi]; simp⟩,by omega,Le.mk ⟨rfl,rfl,rfl,rfl,rfl,rfl,rfl,rfl,trivial⟩ trivial⟩
  ·have hk':k = L.length:=by simp at hc; omega
   subst hk'
   (repeat (refine stp ?_))
   refine ⟨_,_,rfl,rfl,?_⟩
   rw [hi]; simp [idxFrom]
theorem c115 (L:List Int) (g:Nat) (caps:List PV) (p:Int -> Bool) (hL:L.length <= 1000) (hp:∀ x ∈ L,ACalls Tryz.prog g ([vi x] ++ caps) (fun r=>r = .pv (.bool (p x)))) :
  ACalls Tryz.prog 60 [.sl (L.map eInt),.fn g caps] (fun r=>r = .pv (.bool (L.any p))):= by
 refine ACalls.of_body hT Tryz.func60 rfl (by kernel_rfl) rfl ?_
 (repeat' (first|refine stp ?_|(refine AL_do2 rfl ?_; first|refine ⟨_,op_call1 rfl rfl rfl rfl (c165 L g caps p hL hp),?_⟩)|refine AL_gdec rfl rfl rfl (fun hg=>?_) (fun hg=>?_)|refine AL_gnot rfl rfl rfl (fun hg=>?_) (fun hg=>?_)|refine AL_gcases rfl rfl rfl (fun hg=>?_) (fun hg=>?_)))
 exact ⟨_,_,rfl,rfl,by rw [idxFrom_ge _ _ _ (Int.le_refl _)]⟩
theorem c174 (L:List Acid) (g:Nat) (caps:List PV) (p:Acid -> Bool) (hL:L.length <= 1000) (hp:∀ x ∈ L,ACalls Tryz.prog g ([.agg (eAcid x)] ++ caps) (fun r=>r = .pv (.bool (p x)))) :
  ACalls Tryz.prog 157 [.sl (L.map eAcid),.fn g caps] (fun r=>r = .pv (vi (idxFrom p L 0))):= by
 refine ACalls.of_body hT Tryz.func157 rfl (by kernel_rfl) rfl ?_
 (repeat (refine stp ?_))
 refine AW_loopC (fun k:Nat=>k <= L.length /\ idxFrom p L 0 = idxFrom p (L.drop k) k) (fun k=>mkSt [(0,.pv (.sl (L.map eAcid))),(1,.pv (.fn g caps)),(7,.pv (vi L.length)),(8,.pv (vi k))] [] 0) (fun k=>L.length - k) 0 ⟨Nat.zero_le _,rfl⟩ ?_ ?_
 ·exact Le.mk ⟨rfl,rfl,rfl,rfl,rfl,rfl,rfl,rfl,trivial⟩ trivial
 ·rintro k ⟨hk,hi⟩
  (repeat (refine stp ?_))
  refine AW_cond rfl (fun hc=>?_) (fun hc=>?_)
  ·have hk':k < L.length:=by simpa using hc
   obtain ⟨x,hx⟩:∃ x,L[k]? = some x:=⟨L[k],by simp [hk']⟩
   have e1:=get_map eAcid hx
   have hxm:=List.mem_of_getElem? hx
   rw [idxFrom_drop p hx] at hi
   (repeat (refine stp ?_))
   refine AL_do rfl (op_call1 rfl rfl rfl rfl (hp x hxm)) ?_
   (repeat (refine stp ?_))
   refine AW_cond rfl (fun hc2=>?_) (fun hc2=>?_)
   ·rw [hc2] at hi
    (repeat (refine stp ?_))
    exact ⟨_,_,rfl,rfl,by rw [hi]; rfl⟩
   ·rw [hc2] at hi
    (repeat (refine stp ?_))
    exact ⟨k + 1,⟨hk',by rw [hi]; simp⟩,by omega,Le.mk ⟨rfl,rfl,rfl,rfl,rfl,rfl,rfl,rfl,trivial⟩ trivial⟩
  ·have hk':k = L.length:=by simp at hc; omega
   subst hk'
   (repeat (refine stp ?_))
   refine ⟨_,_,rfl,rfl,?_⟩
   rw [hi]; simp [idxFrom]
theorem c146 (L:List Acid) (g:Nat) (caps:List PV) (p:Acid -> Bool) (hL:L.length <= 1000) (hp:∀ x ∈ L,ACalls Tryz.prog g ([.agg (eAcid x)] ++ caps) (fun r=>r = .pv (.bool (p x)))) :
  ACalls Tryz.prog 90 [.sl (L.map eAcid),.fn g caps] (fun r=>r = .pv (.bool (L.any p))):= by
 refine ACalls.of_body hT Tryz.func90 rfl (by kernel_rfl) rfl ?_
 (repeat' (first|refine stp ?_|(refine AL_do2 rfl ?_; first|refine ⟨_,op_call1 rfl rfl rfl rfl (c174 L g caps p hL hp),?_⟩)|refine AL_gdec rfl rfl rfl (fun hg=>?_) (fun hg=>?_)|refine AL_gnot rfl rfl rfl (fun hg=>?_) (fun hg=>?_)|refine AL_gcases rfl rfl rfl (fun hg=>?_) (fun hg=>?_)))
 exact ⟨_,_,rfl,rfl,by rw [idxFrom_ge _ _ _ (Int.le_refl _)]⟩
theorem c175 (L:List Batch) (g:Nat) (caps:List PV) (p:Batch -> Bool) (hL:L.length <= 1000) (hp:∀ x ∈ L,ACalls Tryz.prog g ([.agg (eBatch x)] ++ caps) (fun r=>r = .pv (.bool (p x)))) :
  ACalls Tryz.prog 159 [.sl (L.map eBatch),.fn g caps] (fun r=>r = .pv (vi (idxFrom p L 0))):= by
 refine ACalls.of_body hT Tryz.func159 rfl (by kernel_rfl) rfl ?_
 (repeat (refine stp ?_))
 refine AW_loopC (fun k:Nat=>k <= L.length /\ idxFrom p L 0 = idxFrom p (L.drop k) k) (fun k=>mkSt [(0,.pv (.sl (L.map eBatch))),(1,.pv (.fn g caps)),(7,.pv (vi L.length)),(8,.pv (vi k))] [] 0) (fun k=>L.length - k) 0 ⟨Nat.zero_le _,rfl⟩ ?_ ?_
 ·exact Le.mk ⟨rfl,rfl,rfl,rfl,rfl,rfl,rfl,rfl,trivial⟩ trivial
 ·rintro k ⟨hk,hi⟩
  (repeat (refine stp ?_))
  refine AW_cond rfl (fun hc=>?_) (fun hc=>?_)
  ·have hk':k < L.length:=by simpa using hc
   obtain ⟨x,hx⟩:∃ x,L[k]? = some x:=⟨L[k],by simp [hk']⟩
   have e1:=get_map eBatch hx
   have hxm:=List.mem_of_getElem? hx
   rw [idxFrom_drop p hx] at hi
   (repeat (refine stp ?_))
   refine AL_do rfl (op_call1 rfl rfl rfl rfl (hp x hxm)) ?_
   (repeat (refine stp ?_))
   refine AW_cond rfl (fun hc2=>?_) (fun hc2=>?_)
   ·rw [hc2] at hi
    (repeat (refine stp ?_))
    exact ⟨_,_,rfl,rfl,by rw [hi]; rfl⟩
   ·rw [hc2] at hi
    (repeat (refine stp ?_))
    exact ⟨k + 1,⟨hk',by rw [hi]; simp⟩,by omega,Le.mk ⟨rfl,rfl,rfl,rfl,rfl,rfl,rfl,rfl,trivial⟩ trivial⟩
  ·have hk':k = L.length:=by simp at hc; omega
   subst hk'
   (repeat (refine stp ?_))
   refine ⟨_,_,rfl,rfl,?_⟩
   rw [hi]; simp [idxFrom]
theorem c151 (L:List Batch) (g:Nat) (caps:List PV) (p:Batch -> Bool) (hL:L.length <= 1000) (hp:∀ x ∈ L,ACalls Tryz.prog g ([.agg (eBatch x)] ++ caps) (fun r=>r = .pv (.bool (p x)))) :
  ACalls Tryz.prog 96 [.sl (L.map eBatch),.fn g caps] (fun r=>r = .pv (.bool (L.any p))):= by
 refine ACalls.of_body hT Tryz.func96 rfl (by kernel_rfl) rfl ?_
 (repeat' (first|refine stp ?_|(refine AL_do2 rfl ?_; first|refine ⟨_,op_call1 rfl rfl rfl rfl (c175 L g caps p hL hp),?_⟩)|refine AL_gdec rfl rfl rfl (fun hg=>?_) (fun hg=>?_)|refine AL_gnot rfl rfl rfl (fun hg=>?_) (fun hg=>?_)|refine AL_gcases rfl rfl rfl (fun hg=>?_) (fun hg=>?_)))
 exact ⟨_,_,rfl,rfl,by rw [idxFrom_ge _ _ _ (Int.le_refl _)]⟩
end Go.Abs
