/- What is proved here: contracts of functions of the library at this program, each one application of a theorem of the kit. No condition beyond those stated. -/
/-
  DERIVED: THE SHELF's CONTRACTS AT THIS DUMP, IN PLAIN WORDS (tools/lay-plain.mjs out of 'TryzShelfNum.lean', which tools/lay-shelf.mjs wrote): THE SAME DECLARATIONS UNDER THE SAME NAMES: 'import', 'namespace', 'open', 'def', 'theorem' AND NOTHING ELSE: no command of the shelf's: FOR A HAND-IN. Each laying: the table of numbers ('.._ren') and one theorem, a field a fact of the dump's own or the kernel's comparison; each contract: ONE APPLICATION.
-/
import Derived.Shelf.SlGeneric
import Derived.Shelf.Strings.Prefix
import Derived.Shelf.SlicesQ.IndexFunc
import Derived.Shelf.Strconv.Atoi
import Derived.Ground.SlgfProg
import Derived.Test.YtbbbaeenngjldaaGreatDoorProg
namespace Go.Proofs
open Go.Shelf
def Tryz.lays99_ren : Go.Shelf.Ren := ⟨fun | 99 => 121 | 206 => 221 | n => n, fun | 9 => 9 | 4 => 4 | 3 => 3 | n => n, fun | n => n⟩
theorem Tryz.lays99 : Go.Proofs.Lays.n99 Tryz.prog Tryz.lays99_ren := {
  mixed := by kernel_rfl
  f99 := Tryz.func121.trans (congrArg some (by kernel_rfl))
  f206 := Tryz.func221.trans (congrArg some (by kernel_rfl))
  t3 := Tryz.underlying3
  a3 := Tryz.isAgg3
  z3 := Tryz.sizeOf3
  v3 := Tryz.zeroValue3
  t4 := Tryz.underlying4
  a4 := Tryz.isAgg4
  z4 := Tryz.sizeOf4
  v4 := Tryz.zeroValue4
  t9 := Tryz.underlying9
  a9 := Tryz.isAgg9
  z9 := Tryz.sizeOf9
  v9 := Tryz.zeroValue9 }
open Go.RowKit in
theorem Tryz.strings_HasPrefix (s p : ByteArray) (w : World) :
    Calls Tryz.prog 121 #[.string s, .string p] w fun e w' => e = .returned (.bool (Lib.hasPrefix s.data.toList p.data.toList)) ∧ w' = w := Any.strings_HasPrefix Tryz.lays99 s p w
def Tryz.lays172_ren : Go.Shelf.Ren := ⟨fun | 172 => 316 | 244 => 363 | 245 => 364 | 247 => 390 | 279 => 391 | 280 => 392 | 281 => 393 | 282 => 394 | 287 => 407 | 316 => 408 | 171 => 144 | 205 => 409 | 321 => 413 | 322 => 414 | 243 => 236 | 246 => 323 | 283 => 366 | 284 => 367 | 285 => 368 | 286 => 369 | 129 => 308 | 317 => 395 | 318 => 396 | 319 => 397 | 320 => 398 | 337 => 410 | 338 => 411 | n => n, fun | 9 => 9 | 3 => 3 | 75 => 352 | 76 => 353 | 4 => 4 | 5 => 5 | 167 => 487 | 37 => 195 | 0 => 0 | 85 => 488 | 2 => 2 | 168 => 490 | 53 => 408 | 175 => 502 | 46 => 328 | 210 => 506 | 127 => 424 | 145 => 511 | 143 => 509 | 21 => 21 | 171 => 463 | 173 => 465 | 212 => 494 | 51 => 406 | 20 => 20 | 213 => 495 | 232 => 477 | 233 => 512 | 80 => 112 | n => n, fun | 15 => 5 | 16 => 6 | 17 => 2 | 18 => 1 | 19 => 7 | n => n⟩
theorem Tryz.lays172 : Go.Proofs.Lays.n172 Tryz.prog Tryz.lays172_ren := {
  mixed := by kernel_rfl
  f129 := Tryz.func308.trans (congrArg some (by kernel_rfl))
  f171 := Tryz.func144.trans (congrArg some (by kernel_rfl))
  f172 := Tryz.func316.trans (congrArg some (by kernel_rfl))
  f205 := Tryz.func409.trans (congrArg some (by kernel_rfl))
  f243 := Tryz.func236.trans (congrArg some (by kernel_rfl))
  f244 := Tryz.func363.trans (congrArg some (by kernel_rfl))
  f245 := Tryz.func364.trans (congrArg some (by kernel_rfl))
  f246 := Tryz.func323.trans (congrArg some (by kernel_rfl))
  f247 := Tryz.func390.trans (congrArg some (by kernel_rfl))
  f279 := Tryz.func391.trans (congrArg some (by kernel_rfl))
  f280 := Tryz.func392.trans (congrArg some (by kernel_rfl))
  f281 := Tryz.func393.trans (congrArg some (by kernel_rfl))
  f282 := Tryz.func394.trans (congrArg some (by kernel_rfl))
  f283 := Tryz.func366.trans (congrArg some (by kernel_rfl))
  f284 := Tryz.func367.trans (congrArg some (by kernel_rfl))
  f285 := Tryz.func368.trans (congrArg some (by kernel_rfl))
  f286 := Tryz.func369.trans (congrArg some (by kernel_rfl))
  f287 := Tryz.func407.trans (congrArg some (by kernel_rfl))
  f316 := Tryz.func408.trans (congrArg some (by kernel_rfl))
  f317 := Tryz.func395.trans (congrArg some (by kernel_rfl))
  f318 := Tryz.func396.trans (congrArg some (by kernel_rfl))
  f319 := Tryz.func397.trans (congrArg some (by kernel_rfl))
  f320 := Tryz.func398.trans (congrArg some (by kernel_rfl))
  f321 := Tryz.func413.trans (congrArg some (by kernel_rfl))
  f322 := Tryz.func414.trans (congrArg some (by kernel_rfl))
  f337 := Tryz.func410.trans (congrArg some (by kernel_rfl))
  f338 := Tryz.func411.trans (congrArg some (by kernel_rfl))
  t0 := Tryz.underlying0
  a0 := Tryz.isAgg0
  z0 := Tryz.sizeOf0
  v0 := Tryz.zeroValue0
  t2 := Tryz.underlying2
  a2 := Tryz.isAgg2
  z2 := Tryz.sizeOf2
  v2 := Tryz.zeroValue2
  t3 := Tryz.underlying3
  a3 := Tryz.isAgg3
  z3 := Tryz.sizeOf3
  v3 := Tryz.zeroValue3
  t4 := Tryz.underlying4
  a4 := Tryz.isAgg4
  z4 := Tryz.sizeOf4
  v4 := Tryz.zeroValue4
  t5 := Tryz.underlying5
  a5 := Tryz.isAgg5
  z5 := Tryz.sizeOf5
  v5 := Tryz.zeroValue5
  t9 := Tryz.underlying9
  a9 := Tryz.isAgg9
  z9 := Tryz.sizeOf9
  v9 := Tryz.zeroValue9
  t20 := Tryz.underlying20
  a20 := Tryz.isAgg20
  z20 := Tryz.sizeOf20
  v20 := Tryz.zeroValue20
  t21 := Tryz.underlying21
  a21 := Tryz.isAgg21
  z21 := Tryz.sizeOf21
  v21 := Tryz.zeroValue21
  t37 := Tryz.underlying195
  a37 := Tryz.isAgg195
  z37 := Tryz.sizeOf195
  v37 := Tryz.zeroValue195
  t46 := Tryz.underlying328
  a46 := Tryz.isAgg328
  z46 := Tryz.sizeOf328
  v46 := Tryz.zeroValue328
  t51 := Tryz.underlying406
  a51 := Tryz.isAgg406
  z51 := Tryz.sizeOf406
  v51 := Tryz.zeroValue406
  t53 := Tryz.underlying408
  a53 := Tryz.isAgg408
  z53 := Tryz.sizeOf408
  v53 := Tryz.zeroValue408
  t75 := Tryz.underlying352
  a75 := Tryz.isAgg352
  z75 := Tryz.sizeOf352
  v75 := Tryz.zeroValue352
  t76 := Tryz.underlying353
  a76 := Tryz.isAgg353
  z76 := Tryz.sizeOf353
  v76 := Tryz.zeroValue353
  t85 := Tryz.underlying488
  a85 := Tryz.isAgg488
  z85 := Tryz.sizeOf488
  v85 := Tryz.zeroValue488
  t127 := Tryz.underlying424
  a127 := Tryz.isAgg424
  z127 := Tryz.sizeOf424
  v127 := Tryz.zeroValue424
  t143 := Tryz.underlying509
  a143 := Tryz.isAgg509
  z143 := Tryz.sizeOf509
  v143 := Tryz.zeroValue509
  t145 := Tryz.underlying511
  a145 := Tryz.isAgg511
  z145 := Tryz.sizeOf511
  v145 := Tryz.zeroValue511
  t167 := Tryz.underlying487
  a167 := Tryz.isAgg487
  z167 := Tryz.sizeOf487
  v167 := Tryz.zeroValue487
  t168 := Tryz.underlying490
  a168 := Tryz.isAgg490
  z168 := Tryz.sizeOf490
  v168 := Tryz.zeroValue490
  t171 := Tryz.underlying463
  a171 := Tryz.isAgg463
  z171 := Tryz.sizeOf463
  v171 := Tryz.zeroValue463
  t173 := Tryz.underlying465
  a173 := Tryz.isAgg465
  z173 := Tryz.sizeOf465
  v173 := Tryz.zeroValue465
  t175 := Tryz.underlying502
  a175 := Tryz.isAgg502
  z175 := Tryz.sizeOf502
  v175 := Tryz.zeroValue502
  t210 := Tryz.underlying506
  a210 := Tryz.isAgg506
  z210 := Tryz.sizeOf506
  v210 := Tryz.zeroValue506
  t212 := Tryz.underlying494
  a212 := Tryz.isAgg494
  z212 := Tryz.sizeOf494
  v212 := Tryz.zeroValue494
  t213 := Tryz.underlying495
  a213 := Tryz.isAgg495
  z213 := Tryz.sizeOf495
  t232 := Tryz.underlying477
  a232 := Tryz.isAgg477
  z232 := Tryz.sizeOf477
  v232 := Tryz.zeroValue477
  t233 := Tryz.underlying512
  a233 := Tryz.isAgg512
  z233 := Tryz.sizeOf512
  v233 := Tryz.zeroValue512
  g15 := by kernel_rfl
  g16 := by kernel_rfl
  g17 := by kernel_rfl
  g18 := by kernel_rfl
  g19 := by kernel_rfl }
open Go.RowKit in
theorem Tryz.strconv_Atoi (s : ByteArray) (n : Int) (hl : s.size ≤ 18) (h : Lib.atoi s.data.toList = some n) (w : World) :
    Calls Tryz.prog 316 #[.string s] w fun e w' => e = .returned (.tuple #[.int .i64 n, .nilIface]) ∧ ∃ t, w' = Lib.bytesWorld w 5 t := Any.strconv_Atoi Tryz.lays172 s n hl h w
def Tryz.layIdxC_ren : Go.Shelf.Ren := ⟨fun | 6 => 211 | n => n, fun | 22 => 26 | 23 => 179 | 25 => 185 | 3 => 3 | 0 => 0 | 4 => 4 | n => n, fun | n => n⟩
theorem Tryz.layIdxC : Go.Proofs.SlLaysH0.n6 Tryz.prog Tryz.layIdxC_ren := {
  mixed := by kernel_rfl
  f6 := ⟨Tryz.f211.name, by decide, Tryz.func211.trans (congrArg some (by kernel_rfl))⟩
  t0 := Tryz.underlying0
  a0 := Tryz.isAgg0
  z0 := Tryz.sizeOf0
  v0 := Tryz.zeroValue0
  t3 := Tryz.underlying3
  a3 := Tryz.isAgg3
  z3 := Tryz.sizeOf3
  v3 := Tryz.zeroValue3
  t4 := Tryz.underlying4
  a4 := Tryz.isAgg4
  z4 := Tryz.sizeOf4
  v4 := Tryz.zeroValue4
  t22 := Tryz.underlying26
  a22 := Tryz.isAgg26
  z22 := Tryz.sizeOf26
  v22 := Tryz.zeroValue26
  t25 := Tryz.underlying185
  a25 := Tryz.isAgg185
  z25 := Tryz.sizeOf185
  v25 := Tryz.zeroValue185 }
def Tryz.layHasC_ren : Go.Shelf.Ren := ⟨fun | 8 => 105 | 6 => 211 | n => n, fun | 22 => 26 | 23 => 179 | 25 => 185 | 4 => 4 | 3 => 3 | 0 => 0 | n => n, fun | n => n⟩
theorem Tryz.layHasC : Go.Proofs.SlLaysH0.n8 Tryz.prog Tryz.layHasC_ren := {
  mixed := by kernel_rfl
  f6 := ⟨Tryz.f211.name, by decide, Tryz.func211.trans (congrArg some (by kernel_rfl))⟩
  f8 := ⟨Tryz.f105.name, by decide, Tryz.func105.trans (congrArg some (by kernel_rfl))⟩
  t0 := Tryz.underlying0
  a0 := Tryz.isAgg0
  z0 := Tryz.sizeOf0
  v0 := Tryz.zeroValue0
  t3 := Tryz.underlying3
  a3 := Tryz.isAgg3
  z3 := Tryz.sizeOf3
  v3 := Tryz.zeroValue3
  t4 := Tryz.underlying4
  a4 := Tryz.isAgg4
  z4 := Tryz.sizeOf4
  v4 := Tryz.zeroValue4
  t22 := Tryz.underlying26
  a22 := Tryz.isAgg26
  z22 := Tryz.sizeOf26
  v22 := Tryz.zeroValue26
  t25 := Tryz.underlying185
  a25 := Tryz.isAgg185
  z25 := Tryz.sizeOf185
  v25 := Tryz.zeroValue185 }
def Tryz.layIdxA_ren : Go.Shelf.Ren := ⟨fun | 6 => 215 | n => n, fun | 22 => 177 | 23 => 182 | 25 => 325 | 3 => 3 | 0 => 0 | 4 => 4 | n => n, fun | n => n⟩
theorem Tryz.layIdxA : Go.Proofs.SlLaysH0.n6 Tryz.prog Tryz.layIdxA_ren := {
  mixed := by kernel_rfl
  f6 := ⟨Tryz.f215.name, by decide, Tryz.func215.trans (congrArg some (by kernel_rfl))⟩
  t0 := Tryz.underlying0
  a0 := Tryz.isAgg0
  z0 := Tryz.sizeOf0
  v0 := Tryz.zeroValue0
  t3 := Tryz.underlying3
  a3 := Tryz.isAgg3
  z3 := Tryz.sizeOf3
  v3 := Tryz.zeroValue3
  t4 := Tryz.underlying4
  a4 := Tryz.isAgg4
  z4 := Tryz.sizeOf4
  v4 := Tryz.zeroValue4
  t22 := Tryz.underlying177
  a22 := Tryz.isAgg177
  z22 := Tryz.sizeOf177
  v22 := Tryz.zeroValue177
  t25 := Tryz.underlying325
  a25 := Tryz.isAgg325
  z25 := Tryz.sizeOf325
  v25 := Tryz.zeroValue325 }
open Go.RowKit Go.Lib in
theorem Tryz.slices_idxC {α : Type} [Inhabited α] (enc : α → List Value) (hk : ∀ x, (enc x).length = 4) (p : α → Bool) (g : Nat) (lb : Array Value) (eg : ∀ args w, (callFunc g args).run Tryz.prog w = .ok (.enter g args) w) (b off n c : Nat) (zs : List α) (w : World) (hp : PredBelow Tryz.prog g lb (fun x => .agg (enc x).toArray) p w) (hz : n ≤ zs.length) (hbig : n ≤ 9223372036854775807) (hb : b < w.heap.size) (hc : ∀ j, j < zs.length → ∀ i v, (enc zs[j]!)[i]? = some v → w.cell? ⟨b, off + j * 4 + i, none⟩ = some v) :
    Calls Tryz.prog 211 #[.slice (some ⟨b, off, none⟩) n c, .func (.func g) #[] lb] w fun e w' => e = .returned (.int .i64 (Lib.idxBy (fun _ y => p y) (zs.take n) default)) ∧ Below w.heap.size w w' := AnyQ.slices_IndexFunc Tryz.layIdxC 4 Tryz.isAgg179 Tryz.sizeOf179 enc hk p g lb eg b off n c zs w hp hz hbig hb hc
open Go.RowKit Go.Lib in
theorem Tryz.slices_hasC {α : Type} [Inhabited α] (enc : α → List Value) (hk : ∀ x, (enc x).length = 4) (p : α → Bool) (g : Nat) (lb : Array Value) (eg : ∀ args w, (callFunc g args).run Tryz.prog w = .ok (.enter g args) w) (b off n c : Nat) (zs : List α) (w : World) (hp : PredBelow Tryz.prog g lb (fun x => .agg (enc x).toArray) p w) (hz : n ≤ zs.length) (hbig : n ≤ 9223372036854775807) (hb : b < w.heap.size) (hc : ∀ j, j < zs.length → ∀ i v, (enc zs[j]!)[i]? = some v → w.cell? ⟨b, off + j * 4 + i, none⟩ = some v) :
    Calls Tryz.prog 105 #[.slice (some ⟨b, off, none⟩) n c, .func (.func g) #[] lb] w fun e w' => e = .returned (.bool ((zs.take n).any p)) ∧ Below w.heap.size w w' := AnyQ.slices_ContainsFunc Tryz.layHasC 4 Tryz.isAgg179 Tryz.sizeOf179 enc hk p g lb eg b off n c zs w hp hz hbig hb hc
open Go.RowKit Go.Lib in
theorem Tryz.slices_idxA {α : Type} [Inhabited α] (enc : α → List Value) (hk : ∀ x, (enc x).length = 3) (p : α → Bool) (g : Nat) (lb : Array Value) (eg : ∀ args w, (callFunc g args).run Tryz.prog w = .ok (.enter g args) w) (b off n c : Nat) (zs : List α) (w : World) (hp : PredBelow Tryz.prog g lb (fun x => .agg (enc x).toArray) p w) (hz : n ≤ zs.length) (hbig : n ≤ 9223372036854775807) (hb : b < w.heap.size) (hc : ∀ j, j < zs.length → ∀ i v, (enc zs[j]!)[i]? = some v → w.cell? ⟨b, off + j * 3 + i, none⟩ = some v) :
    Calls Tryz.prog 215 #[.slice (some ⟨b, off, none⟩) n c, .func (.func g) #[] lb] w fun e w' => e = .returned (.int .i64 (Lib.idxBy (fun _ y => p y) (zs.take n) default)) ∧ Below w.heap.size w w' := AnyQ.slices_IndexFunc Tryz.layIdxA 3 Tryz.isAgg182 Tryz.sizeOf182 enc hk p g lb eg b off n c zs w hp hz hbig hb hc
end Go.Proofs
